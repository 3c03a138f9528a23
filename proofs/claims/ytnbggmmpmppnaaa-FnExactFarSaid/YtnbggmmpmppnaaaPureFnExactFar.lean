/- Of every two lists of ints the program's Far and the reference's give the same number, and the lists stay. No condition but the form's own bound on a slice's size. -/
import Derived.Test.YtnbggmmpmppnaaaPFnExactFarx2
set_option linter.unusedVariables false
set_option linter.unusedSimpArgs false
namespace Go.Proofs.Ytnbggmmpmppnaaa.Pure
open Go.RowKit Go.Proofs.Ytnbggmmpmppnaaa.PFnExactFar Go.Proofs.YtnbggmmpmppnaaaW.PrintWords Go.Proofs.YtnbggmmpmppnaaaW.PrintLast Go.Proofs.YtnbggmmpmppnaaaW.PrintMore

-- snippet openpps
open Go.Proofs.Ytnbggmmpmppnaaa.PPolySub

-- snippet plain
/-! bytes as numbers -/
def bl (s : ByteArray) : List Int := s.data.toList.map fun b => (b.toNat : Int)
theorem bl_len (s : ByteArray) : (bl s).length = s.size := by unfold bl; rw [List.length_map, Array.length_toList]; rfl
theorem map_u8_inj : ∀ {a b : List UInt8}, a.map (fun b => (b.toNat : Int)) = b.map (fun b => (b.toNat : Int)) → a = b
  | [], [], _ => rfl
  | [], _ :: _, h => by simp at h
  | _ :: _, [], h => by simp at h
  | x :: a, y :: b, h => by
    simp only [List.map_cons, List.cons.injEq] at h
    have e : x = y := UInt8.toNat_inj.mp (by omega)
    rw [e, map_u8_inj h.2]
theorem bl_inj {s t : ByteArray} (h : bl s = bl t) : s = t := by
  have := map_u8_inj h
  cases s; cases t
  simp only [ByteArray.mk.injEq] at *
  exact Array.toList_inj.mp this
theorem bl_eq {s t : ByteArray} : s = t ↔ bl s = bl t := ⟨fun h => by rw [h], bl_inj⟩
theorem toList_bl {s t : ByteArray} : s.toList = t.toList ↔ bl s = bl t := by
  rw [ByteArray.toList_eq, ByteArray.toList_eq]
  exact ⟨fun h => by unfold bl; rw [h], fun h => by rw [bl_inj h]⟩
theorem bl_range (s : ByteArray) : ∀ x ∈ bl s, 0 ≤ x ∧ x < 256 := by
  intro x hx
  simp only [bl, List.mem_map] at hx
  obtain ⟨b, _, rfl⟩ := hx
  have := b.toNat_lt
  omega
theorem bt_bl (s : ByteArray) (i : Int) : bt s i = (bl s).getD i.toNat 0 := by
  unfold bt bl
  split
  · rename_i h
    have h' : i.toNat < s.data.toList.length := by rw [Array.length_toList]; exact h
    rw [List.getD_eq_getElem?_getD, List.getElem?_map, List.getElem?_eq_getElem h']
    rfl
  · rename_i h
    have h' : s.data.toList.length ≤ i.toNat := by rw [Array.length_toList]; exact Nat.le_of_not_lt h
    rw [List.getD_eq_getElem?_getD, List.getElem?_map, List.getElem?_eq_none h']
    rfl
theorem bl_append (s t : ByteArray) : bl (s ++ t) = bl s ++ bl t := by simp [bl]
theorem bl_extract (s : ByteArray) (a b : Nat) : bl (s.extract a b) = ((bl s).drop a).take (b - a) := by
  simp [bl, List.map_take, List.map_drop]
theorem u8_ofNat (n : Int) (h : 0 ≤ n ∧ n < 256) : ((UInt8.ofNat n.toNat).toNat : Int) = n := by
  rw [UInt8.toNat_ofNat']
  omega
theorem bl_str (xs : List Int) (h : ∀ x ∈ xs, 0 ≤ x ∧ x < 256) : bl (strOfNums xs) = xs := by
  unfold bl
  rw [strOfNums_data, List.map_map]
  conv => rhs; rw [← List.map_id xs]
  exact List.map_congr_left fun x hx => u8_ofNat x (h x hx)
theorem str_bl (s : ByteArray) : strOfNums (bl s) = s := bl_inj (bl_str _ (bl_range s))
theorem str_size (xs : List Int) : (strOfNums xs).size = xs.length := strOfNums_size xs
theorem bl_nil : bl (⟨#[]⟩ : ByteArray) = [] := rfl
theorem bt_lo (s : ByteArray) (i : Int) : 0 ≤ bt s i := (bt_range s i).1
theorem bt_hi (s : ByteArray) (i : Int) : bt s i < 256 := by have := (bt_range s i).2; omega
theorem wr (n : Int) (h : -9223372036854775808 ≤ n) (h' : n ≤ 9223372036854775807) : wrap64 n = n := by unfold wrap64; omega
theorem wrn {z : Int} (n : Nat) (e : z = n) (h : n ≤ 9223372036854775807) : wrap64 z = n := by rw [e]; exact wr _ (by omega) (by omega)
theorem tdiv_pos (a b : Int) (h : 0 ≤ a) : Int.tdiv a b = a / b := Int.tdiv_eq_ediv_of_nonneg h
theorem tmod_pos (a b : Int) (h : 0 ≤ a) : Int.tmod a b = a % b := Int.tmod_eq_emod_of_nonneg h
theorem succ_of {k d : Nat} (h : d < k) : ∃ m, k = m + 1 := ⟨k - 1, by omega⟩
theorem drop_bt (s : ByteArray) (i : Nat) (h : i < s.size) : (bl s).drop i = bt s i :: (bl s).drop (i + 1) := by
  have h' : i < (bl s).length := by rw [bl_len]; exact h
  rw [List.drop_eq_getElem_cons h', bt_bl, Int.toNat_natCast, List.getD_eq_getElem?_getD, List.getElem?_eq_getElem h']
  rfl
theorem drop_end (s : ByteArray) (i : Nat) (h : s.size ≤ i) : (bl s).drop i = [] := List.drop_eq_nil_of_le (by rw [bl_len]; exact h)
theorem take_snoc_cons {α : Type} (p : List α) (b : α) (l : List α) : (p ++ b :: l).take (p.length + 1) = p ++ [b] := by
  rw [List.take_length_add_append]; simp
attribute [local irreducible] bt

-- snippet intlist
/-! lists of numbers: taken over, compared -/
theorem toInt_l0 (x : List Int) (h : x.length < 1000000000) : ∀ (d K j : Nat) (y : List Int), j + d = x.length → d < K → y.length = x.length → laws_toIntS.l0 K x y j = some (y.take j ++ (x.drop j)) := by
  intro d
  induction d with
  | zero =>
    intro K j y hj hK hy
    obtain ⟨K, rfl⟩ := succ_of hK
    simp only [laws_toIntS.l0]
    rw [if_neg (show ¬ (j : Int) < (x.length : Int) by omega), List.take_of_length_le (by omega), List.drop_eq_nil_of_le (by omega)]
    simp
  | succ d ih =>
    intro K j y hj hK hy
    obtain ⟨K, rfl⟩ := succ_of hK
    have hjx : j < x.length := by omega
    simp only [laws_toIntS.l0]
    rw [if_pos (show (j : Int) < (x.length : Int) by omega), if_pos (show 0 ≤ (j : Int) by omega), if_pos (show (j : Int) < (y.length : Int) by omega), wr ((j : Int) + 1) (by omega) (by omega), show ((j : Int) + 1) = ((j + 1 : Nat) : Int) by omega, Int.toNat_natCast, ih K (j + 1) _ (by omega) (by omega) (by simp; omega)]
    have e : rd x (j : Int) = x[j] := by unfold rd; rw [Int.toNat_natCast, List.getD_eq_getElem?_getD, List.getElem?_eq_getElem hjx]; rfl
    have t : (y.set j (rd x (j : Int))).take (j + 1) = y.take j ++ [x[j]] := by
      rw [List.take_set, List.take_succ_eq_append_getElem (show j < y.length by omega), List.set_append_right _ _ (by simp; omega), e]
      simp [show min j y.length = j by omega]
    rw [t, List.append_assoc, List.drop_eq_getElem_cons hjx]
    rfl
theorem toInt_f (x : List Int) (K : Nat) (h : x.length < 1000000000) (hK : x.length < K) : laws_toIntS.f K x = some x := by
  have := toInt_l0 x h x.length K 0 (List.replicate x.length 0) (by omega) hK (by simp)
  unfold laws_toIntS.f
  rw [if_pos (show 0 ≤ (x.length : Int) by omega), if_pos (by simp; omega)]
  simpa using this
theorem eqI_l0 (l : List Int) (h : l.length < 1000000000) : ∀ (d K i : Nat), i + d = l.length → d < K → laws_eqIntS.l0 K l l i = some true := by
  intro d
  induction d with
  | zero =>
    intro K i hi hK
    obtain ⟨K, rfl⟩ := succ_of hK
    simp only [laws_eqIntS.l0]
    rw [if_neg (by omega)]
  | succ d ih =>
    intro K i hi hK
    obtain ⟨K, rfl⟩ := succ_of hK
    simp only [laws_eqIntS.l0]
    rw [if_pos (by omega), if_pos (by omega), if_pos (by omega), if_true, wr _ (by omega) (by omega), show ((i : Int) + 1) = ((i + 1 : Nat) : Int) by omega]
    exact ih K (i + 1) (by omega) (by omega)
theorem eqI_f (l : List Int) (K : Nat) (h : l.length < 1000000000) (hK : l.length < K) : laws_eqIntS.f K l l = some true := by
  have := eqI_l0 l h l.length K 0 (by omega) hK
  unfold laws_eqIntS.f
  rw [if_pos rfl]
  simpa using this

-- snippet polyok_impl
/-! right polynomials -/
def rightP (p : List Int) : Bool := decide (p.length = 256 ∧ ∀ x ∈ p, 0 ≤ x ∧ x ≤ 3328)
theorem rd_nat (l : List Int) (j : Nat) (h : j < l.length) : rd l (j : Int) = l[j] := by unfold rd; rw [Int.toNat_natCast, List.getD_eq_getElem?_getD, List.getElem?_eq_getElem h]; rfl
theorem all_drop (p : List Int) (j : Nat) (h : j < p.length) (P : Int → Prop) : (∀ x ∈ p.drop j, P x) ↔ P p[j] ∧ ∀ x ∈ p.drop (j + 1), P x := by
  rw [List.drop_eq_getElem_cons h]; exact List.forall_mem_cons
theorem impl_in_f (a b c : Int) : impl_in.f a b c = some (decide (b ≤ a ∧ a ≤ c)) := by
  unfold impl_in.f
  by_cases h : b ≤ a
  · rw [if_pos h]; simp [h]
  · rw [if_neg h]; simp [h]
theorem impl_pok_l0 (p : List Int) (h : p.length < 1000000000) : ∀ (d K j : Nat), j + d = p.length → d < K → impl_PolyOk.l0 K p p (p.length : Int) j = some (decide (p.length = 256 ∧ ∀ x ∈ p.drop j, 0 ≤ x ∧ x ≤ 3328)) := by
  intro d
  induction d with
  | zero =>
    intro K j hj hK
    obtain ⟨K, rfl⟩ := succ_of hK
    simp only [impl_PolyOk.l0]
    rw [if_neg (show ¬ (j : Int) < (p.length : Int) by omega), List.drop_eq_nil_of_le (by omega)]
    congr 1
    rw [Bool.eq_iff_iff]
    simp
    omega
  | succ d ih =>
    intro K j hj hK
    obtain ⟨K, rfl⟩ := succ_of hK
    have hjp : j < p.length := by omega
    simp only [impl_PolyOk.l0]
    rw [if_pos (show (j : Int) < (p.length : Int) by omega), if_pos (show 0 ≤ (j : Int) by omega), if_pos (show (j : Int) < (p.length : Int) by omega), impl_in_f, Option.bind_some, rd_nat p j hjp]
    by_cases c : 0 ≤ p[j] ∧ p[j] ≤ 3328
    · rw [if_pos (by simpa using c), wr ((j : Int) + 1) (by omega) (by omega), show ((j : Int) + 1) = ((j + 1 : Nat) : Int) by omega, ih K (j + 1) (by omega) (by omega)]
      congr 1
      rw [decide_eq_decide, all_drop p j hjp]
      exact ⟨fun q => ⟨q.1, c, q.2⟩, fun q => ⟨q.1, q.2.2⟩⟩
    · rw [if_neg (by simpa using c)]
      congr 1
      symm
      rw [decide_eq_false_iff_not, all_drop p j hjp]
      intro q
      exact c q.2.1
theorem impl_PolyOk_f (p : List Int) (K : Nat) (h : p.length < 1000000000) (hK : p.length < K) : impl_PolyOk.f K p = some (rightP p) := by
  have := impl_pok_l0 p h p.length K 0 (by omega) hK
  unfold impl_PolyOk.f
  simpa [rightP] using this

-- snippet modq
theorem modQ_f (x : Int) (h0 : -1200000000000 ≤ x) (h1 : x ≤ 1200000000000) : impl_modQ.f x = some (x % 3329) := by
  unfold impl_modQ.f
  have t0 := Int.tmod_lt_of_pos x (show (0 : Int) < 3329 by decide)
  have t1 := Int.lt_tmod_of_pos x (show (0 : Int) < 3329 by decide)
  have t2 := Int.tmod_add_mul_tdiv x 3329
  rw [wr _ (by omega) (by omega), tmod_pos _ _ (by omega)]
  congr 1
  omega
theorem rd_getD (l : List Int) (i : Nat) : rd l (i : Int) = l.getD i 0 := by unfold rd; rw [Int.toNat_natCast]

-- snippet polysub_impl
/-! PolySub: number by number -/
def mapP (g : Int → Int → Int) (a b : List Int) : List Int := (List.range 256).map fun t => g (a.getD t 0) (b.getD t 0) % 3329
theorem mapP_len (g : Int → Int → Int) (a b : List Int) : (mapP g a b).length = 256 := by unfold mapP; rw [List.length_map, List.length_range]
theorem mapP_get (g : Int → Int → Int) (a b : List Int) (t : Nat) (h : t < (mapP g a b).length) : (mapP g a b)[t] = g (a.getD t 0) (b.getD t 0) % 3329 := by
  simp [mapP]
theorem right_get (p : List Int) (h : rightP p = true) (t : Nat) (ht : t < 256) : 0 ≤ p.getD t 0 ∧ p.getD t 0 ≤ 3328 := by
  have h' := of_decide_eq_true h
  have := h'.2 _ (show p[t]'(by omega) ∈ p from List.getElem_mem _)
  rw [List.getD_eq_getElem?_getD, List.getElem?_eq_getElem (show t < p.length by omega)]
  exact this
theorem each_l0 (a b : List Int) (ha : rightP a = true) (hb : rightP b = true) : ∀ (d t K : Nat) (z : List Int), t + d = 256 → d < K → z.length = d → impl_each.l0 K a b ((mapP (fun x y => x - y) a b).take t ++ z) 256 t = some (mapP (fun x y => x - y) a b) := by
  have la : a.length = 256 := (of_decide_eq_true ha).1
  have lb : b.length = 256 := (of_decide_eq_true hb).1
  have lm := mapP_len (fun x y => x - y) a b
  intro d
  induction d with
  | zero =>
    intro t K z ht hK hz
    obtain ⟨K, rfl⟩ := succ_of hK
    obtain rfl : z = [] := List.eq_nil_of_length_eq_zero hz
    simp only [impl_each.l0]
    rw [if_neg (show ¬ (t : Int) < 256 by omega), List.append_nil, List.take_of_length_le (by omega)]
  | succ d ih =>
    intro t K z ht hK hz
    obtain ⟨K, rfl⟩ := succ_of hK
    have t256 : t < 256 := by omega
    have c1 : (t : Int) < 256 := by omega
    have c2 : 0 ≤ (t : Int) := by omega
    have c3 : (t : Int) < (a.length : Int) := by omega
    have c4 : (t : Int) < (b.length : Int) := by omega
    have e1 : (t : Int) + 1 = ((t + 1 : Nat) : Int) := by omega
    have b1 : t + 1 ≤ 9223372036854775807 := by omega
    have c5 : (t : Int) < ((((mapP (fun x y => x - y) a b).take t ++ z).length : Nat) : Int) := by rw [List.length_append, List.length_take]; omega
    have k1 : t + 1 + d = 256 := by omega
    have k2 : d < K := by omega
    have lt : t < (mapP (fun x y => x - y) a b).length := by omega
    have tk : ((mapP (fun x y => x - y) a b).take t).length = t := by rw [List.length_take]; omega
    obtain ⟨x0, x1⟩ := right_get a ha t t256
    obtain ⟨y0, y1⟩ := right_get b hb t t256
    have g := mapP_get (fun x y => x - y) a b t lt
    cases z with
    | nil => simp at hz
    | cons z0 z =>
      have hz' : z.length = d := by simpa using hz
      have st : ((mapP (fun x y => x - y) a b).take t ++ z0 :: z).set t (a.getD t 0 - b.getD t 0) = (mapP (fun x y => x - y) a b).take t ++ (a.getD t 0 - b.getD t 0) :: z := by
        rw [List.set_append_right _ _ (by omega), tk, Nat.sub_self, List.set_cons_zero]
      have st2 : ((mapP (fun x y => x - y) a b).take t ++ z0 :: z).set t ((a.getD t 0 - b.getD t 0) % 3329) = (mapP (fun x y => x - y) a b).take (t + 1) ++ z := by
        rw [List.set_append_right _ _ (by omega), tk, Nat.sub_self, List.set_cons_zero, List.take_succ_eq_append_getElem lt, g, List.append_assoc]
        rfl
      have lo : -1200000000000 ≤ a.getD t 0 - b.getD t 0 := by omega
      have hi : a.getD t 0 - b.getD t 0 ≤ 1200000000000 := by omega
      have wsub : wrap64 (a.getD t 0 - b.getD t 0) = a.getD t 0 - b.getD t 0 := wr _ (by omega) (by omega)
      have w1 : wrap64 ((t : Int) + 1) = ((t + 1 : Nat) : Int) := wrn _ e1 b1
      simp only [impl_each.l0]
      rw [if_pos c1, if_pos c2, if_pos c3, if_pos c4]
      simp only [impl_PolySub_1.f]
      rw [Option.bind_some, rd_getD, rd_getD, wsub, modQ_f _ lo hi, Option.bind_some, if_pos c5, Int.toNat_natCast, st2, w1]
      exact ih (t + 1) K z k1 k2 hz'
def subP (a b : List Int) : List Int := if rightP a = true ∧ rightP b = true then mapP (fun x y => x - y) a b else []
theorem subP_len (a b : List Int) : (subP a b).length ≤ 256 := by
  unfold subP
  split
  · rw [mapP_len]; exact Nat.le_refl _
  · simp
theorem impl_PolySub_f (a b : List Int) (hl : a.length < 1000000000) (hl2 : b.length < 1000000000) (K : Nat) (hK : 1000100000 ≤ K) : impl_PolySub.f K a b = some (subP a b) := by
  obtain ⟨K, rfl⟩ : ∃ m, K = m + 1 := ⟨K - 1, by omega⟩
  unfold impl_PolySub.f impl_each.f
  rw [impl_PolyOk_f a _ hl (by omega), Option.bind_some]
  by_cases ha : rightP a = true
  · rw [if_pos ha, impl_PolyOk_f b _ hl2 (by omega), Option.bind_some]
    by_cases hb : rightP b = true
    · have k1 : 256 < K := by omega
      have := each_l0 a b ha hb 256 0 K (List.replicate 256 0) rfl k1 List.length_replicate
      rw [List.take_zero, List.nil_append, show ((0 : Nat) : Int) = 0 from rfl] at this
      rw [impl_each.j0, if_neg (by simp [hb]), if_pos (by decide), Option.bind_some, show (((List.replicate 256 (0 : Int)).length : Nat) : Int) = 256 by rw [List.length_replicate]; rfl, this]
      simp [subP, ha, hb]
    · rw [impl_each.j0, if_pos (by simpa using hb)]
      simp [subP, hb]
  · rw [if_neg ha, impl_each.j0, if_pos rfl]
    simp [subP, ha]

-- snippet polyok_spec
theorem spec_in_f (a b c : Int) : spec_l01In.f a b c = some (decide (b ≤ a ∧ a ≤ c)) := impl_in_f a b c
theorem spec_pok_l0 (p : List Int) (h : p.length < 1000000000) : ∀ (d K j : Nat), j + d = p.length → d < K → spec_PolyOk.l0 K p j = some (decide (∀ x ∈ p.drop j, 0 ≤ x ∧ x ≤ 3328)) := by
  intro d
  induction d with
  | zero =>
    intro K j hj hK
    obtain ⟨K, rfl⟩ := succ_of hK
    simp only [spec_PolyOk.l0]
    rw [if_neg (show ¬ (j : Int) < (p.length : Int) by omega), List.drop_eq_nil_of_le (by omega)]
    simp
  | succ d ih =>
    intro K j hj hK
    obtain ⟨K, rfl⟩ := succ_of hK
    have hjp : j < p.length := by omega
    simp only [spec_PolyOk.l0]
    rw [if_pos (show (j : Int) < (p.length : Int) by omega), if_pos (show 0 ≤ (j : Int) by omega), spec_in_f, Option.bind_some, rd_nat p j hjp]
    by_cases c : 0 ≤ p[j] ∧ p[j] ≤ 3328
    · rw [if_pos (by simpa using c), wr ((j : Int) + 1) (by omega) (by omega), show ((j : Int) + 1) = ((j + 1 : Nat) : Int) by omega, ih K (j + 1) (by omega) (by omega)]
      congr 1
      rw [decide_eq_decide, all_drop p j hjp]
      exact ⟨fun q => ⟨c, q⟩, fun q => q.2⟩
    · rw [if_neg (by simpa using c)]
      congr 1
      symm
      rw [decide_eq_false_iff_not, all_drop p j hjp]
      intro q
      exact c q.1
theorem spec_PolyOk_f (p : List Int) (K : Nat) (h : p.length < 1000000000) (hK : p.length < K) : spec_PolyOk.f K p = some (rightP p) := by
  have := spec_pok_l0 p h p.length K 0 (by omega) hK
  unfold spec_PolyOk.f
  by_cases c : p.length = 256
  · rw [if_pos (by omega)]
    simp only [List.drop_zero, Int.natCast_zero] at this
    rw [this]
    simp [rightP, c]
  · rw [if_neg (by omega)]
    simp [rightP, c]

theorem dist_f (x y : Int) (hx : 0 ≤ x ∧ x ≤ 3328) (hy : 0 ≤ y ∧ y ≤ 3328) : Int.tmod (wrap64 ((wrap64 (x - y)) + 3329)) 3329 = (x - y) % 3329 := by
  rw [wr (x - y) (by omega) (by omega), wr (x - y + 3329) (by omega) (by omega), tmod_pos _ _ (by omega)]
  omega
def farV (a b : List Int) : Int := if rightP a = true ∧ rightP b = true then Far.farTo (mapP (fun x y => x - y) a b) 256 else -1
theorem mapP_getD (a b : List Int) (t : Nat) (h : t < 256) : (mapP (fun x y => x - y) a b).getD t 0 = (a.getD t 0 - b.getD t 0) % 3329 := by
  have hl : t < (mapP (fun x y => x - y) a b).length := by rw [mapP_len]; exact h
  rw [List.getD_eq_getElem?_getD, List.getElem?_eq_getElem hl, Option.getD_some, mapP_get (fun x y => x - y) a b t hl]
theorem impl_far_f (a b : List Int) (hl : a.length < 1000000000) (hl2 : b.length < 1000000000) : impl_Far.f a b = some (farV a b) := by
  unfold impl_Far.f Far.farF farV
  obtain ⟨K, hK⟩ : ∃ K, a.length + b.length + 2000000000 = K := ⟨_, rfl⟩
  rw [hK, impl_PolyOk_f a K hl (by omega), Option.bind_some]
  by_cases ha : rightP a = true
  · rw [if_pos ha, impl_PolyOk_f b K hl2 (by omega), Option.bind_some]
    by_cases hb : rightP b = true
    · have hs : subP a b = mapP (fun x y => x - y) a b := by unfold subP; rw [if_pos ⟨ha, hb⟩]
      have hm : (mapP (fun x y => x - y) a b).length = 256 := mapP_len _ a b
      have hc : 0 < (mapP (fun x y => x - y) a b).length ∧ (mapP (fun x y => x - y) a b).length ≤ 1000 ∧ (∀ i, i < (mapP (fun x y => x - y) a b).length → 0 ≤ (mapP (fun x y => x - y) a b).getD i 0 ∧ (mapP (fun x y => x - y) a b).getD i 0 ≤ 3329) := by
        refine ⟨by omega, by omega, fun i hi => ?_⟩
        rw [mapP_getD a b i (by omega)]
        omega
      rw [if_pos hb, impl_PolySub_f a b hl hl2 K (by omega), Option.bind_some, hs, if_pos hc, hm]
      exact congrArg some (if_pos ⟨ha, hb⟩).symm
    · rw [if_neg hb, if_neg (fun h => hb h.2)]
  · rw [if_neg ha, if_neg (fun h => ha h.1)]
theorem spec_far_l0 (a b : List Int) (ha : rightP a = true) (hb : rightP b = true) : ∀ (d t K : Nat), t + d = 256 → d < K → spec_Far.l0 K a b (Far.farTo (mapP (fun x y => x - y) a b) t) t = some (Far.farTo (mapP (fun x y => x - y) a b) 256) := by
  have la : a.length = 256 := (of_decide_eq_true ha).1
  have lb : b.length = 256 := (of_decide_eq_true hb).1
  intro d
  induction d with
  | zero =>
    intro t K ht hK
    obtain ⟨K, rfl⟩ := succ_of hK
    simp only [spec_Far.l0]
    rw [if_neg (show ¬ (t : Int) < 256 by omega), show t = 256 by omega]
  | succ d ih =>
    intro t K ht hK
    obtain ⟨K, rfl⟩ := succ_of hK
    have t256 : t < 256 := by omega
    have c1 : (t : Int) < 256 := by omega
    have c2 : 0 ≤ (t : Int) := by omega
    have c3 : (t : Int) < (a.length : Int) := by omega
    have c4 : (t : Int) < (b.length : Int) := by omega
    have k1 : t + 1 + d = 256 := by omega
    have k2 : d < K := by omega
    have hx := right_get a ha t t256
    have hy := right_get b hb t t256
    have hd := dist_f (a.getD t 0) (b.getD t 0) hx hy
    have hm := mapP_getD a b t t256
    have w1 : wrap64 ((t : Int) + 1) = ((t + 1 : Nat) : Int) := wrn (t + 1) (by omega) (by omega)
    have hi := ih (t + 1) K k1 k2
    have hf : Far.farTo (mapP (fun x y => x - y) a b) (t + 1) = mx (Far.farTo (mapP (fun x y => x - y) a b) t) (mn ((mapP (fun x y => x - y) a b).getD t 0) (3329 - (mapP (fun x y => x - y) a b).getD t 0)) := rfl
    simp only [spec_Far.l0]
    rw [if_pos c1, if_pos c2, if_pos c3, if_pos c4, rd_getD, rd_getD, hd, w1]
    rw [hf, hm] at hi
    have hn : 0 ≤ (a.getD t 0 - b.getD t 0) % 3329 ∧ (a.getD t 0 - b.getD t 0) % 3329 ≤ 3328 := by omega
    generalize (a.getD t 0 - b.getD t 0) % 3329 = n at hn hi ⊢
    generalize Far.farTo (mapP (fun x y => x - y) a b) t = q at hi ⊢
    rw [wr (3329 - n) (by omega) (by omega)]
    unfold mx mn at hi
    by_cases h1 : 3329 - n < n
    · rw [if_pos h1]
      rw [if_pos h1] at hi
      by_cases h2 : 3329 - n > q
      · rw [if_pos h2]
        rw [if_pos h2] at hi
        exact hi
      · rw [if_neg h2]
        rw [if_neg h2] at hi
        exact hi
    · rw [if_neg h1]
      rw [if_neg h1] at hi
      by_cases h2 : n > q
      · rw [if_pos h2]
        rw [if_pos h2] at hi
        exact hi
      · rw [if_neg h2]
        rw [if_neg h2] at hi
        exact hi
theorem spec_far_f (a b : List Int) (hl : a.length < 1000000000) (hl2 : b.length < 1000000000) (K : Nat) (hK : 1000100000 ≤ K) : spec_Far.f K a b = some (farV a b) := by
  obtain ⟨K, rfl⟩ : ∃ m, K = m + 1 := ⟨K - 1, by omega⟩
  unfold spec_Far.f farV
  rw [spec_PolyOk_f a _ hl (by omega), Option.bind_some]
  by_cases ha : rightP a = true
  · rw [if_pos ha, spec_PolyOk_f b _ hl2 (by omega), Option.bind_some]
    by_cases hb : rightP b = true
    · rw [spec_Far.j0, if_neg (by simp [hb]), if_pos ⟨ha, hb⟩]
      exact spec_far_l0 a b ha hb 256 0 K rfl (by omega)
    · rw [spec_Far.j0, if_pos (by simpa using hb), if_neg (fun h => hb h.2)]
  · rw [if_neg ha, spec_Far.j0, if_pos rfl, if_neg (fun h => ha h.1)]
theorem FnExactFar : laws_FnExactFar.Pure := by
  intro a b _ _ _ _ _ _
  obtain ⟨K, hK⟩ : ∃ K, 2000000000 ≤ K := ⟨2000000000, Nat.le_refl _⟩
  refine ⟨K, ?_⟩
  unfold laws_FnExactFar.f
  by_cases h : (a.length : Int) > 1048576
  · rw [if_pos h]
  · by_cases h2 : (b.length : Int) > 1048576
    · rw [if_neg h, if_pos h2]
    · have tia : laws_toIntS.f K a = some a := toInt_f a K (by omega) (by omega)
      have tib : laws_toIntS.f K b = some b := toInt_f b K (by omega) (by omega)
      have ea : laws_eqIntS.f K a a = some true := eqI_f a K (by omega) (by omega)
      have eb : laws_eqIntS.f K b b = some true := eqI_f b K (by omega) (by omega)
      rw [if_neg h, if_neg h2, tia, Option.bind_some, tib, Option.bind_some, spec_far_f a b (by omega) (by omega) K (by omega), Option.bind_some, Option.bind_some, Option.bind_some, impl_far_f a b (by omega) (by omega), Option.bind_some, if_pos rfl, Option.bind_some, ea, Option.bind_some, if_pos rfl, Option.bind_some, eb, Option.bind_some, if_pos rfl]

end Go.Proofs.Ytnbggmmpmppnaaa.Pure
