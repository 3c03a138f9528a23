/- Of every two lists of ints the program's PolyAdd and the reference's give the same list, which is new memory, and the lists stay. No condition but the form's own bound on a slice's size. -/
import Derived.Test.YtnbggmmpmppnaaaPFnExactPolyAddx3
set_option linter.unusedVariables false
set_option linter.unusedSimpArgs false
namespace Go.Proofs.Ytnbggmmpmppnaaa.Pure
open Go.RowKit Go.Proofs.Ytnbggmmpmppnaaa.PFnExactPolyAdd Go.Proofs.YtnbggmmpmppnaaaW.PrintWords Go.Proofs.YtnbggmmpmppnaaaW.PrintLast Go.Proofs.YtnbggmmpmppnaaaW.PrintMore

-- snippet plain
/-! bytes as numbers -/
def bl (s : ByteArray) : List Int := s.data.toList.map fun b => (b.toNat : Int)
theorem bl_len (s : ByteArray) : (bl s).length = s.size := by unfold bl; rw [List.length_map, Array.length_toList]; rfl
theorem map_u8_inj : ∀ {a b : List UInt8}, a.map (fun b => (b.toNat : Int)) = b.map (fun b => (b.toNat : Int)) → a = b
  | [], [], _ => rfl
  | [], _ :: _, h => by simp at h
  | _ :: _, [], h => by simp at h
  | x :: a, y :: b, h => by
    simp only [List.map_cons, List.cons.injEq] at h
    have e : x = y := UInt8.toNat_inj.mp (by omega)
    rw [e, map_u8_inj h.2]
theorem bl_inj {s t : ByteArray} (h : bl s = bl t) : s = t := by
  have := map_u8_inj h
  cases s; cases t
  simp only [ByteArray.mk.injEq] at *
  exact Array.toList_inj.mp this
theorem bl_eq {s t : ByteArray} : s = t ↔ bl s = bl t := ⟨fun h => by rw [h], bl_inj⟩
theorem toList_bl {s t : ByteArray} : s.toList = t.toList ↔ bl s = bl t := by
  rw [ByteArray.toList_eq, ByteArray.toList_eq]
  exact ⟨fun h => by unfold bl; rw [h], fun h => by rw [bl_inj h]⟩
theorem bl_range (s : ByteArray) : ∀ x ∈ bl s, 0 ≤ x ∧ x < 256 := by
  intro x hx
  simp only [bl, List.mem_map] at hx
  obtain ⟨b, _, rfl⟩ := hx
  have := b.toNat_lt
  omega
theorem bt_bl (s : ByteArray) (i : Int) : bt s i = (bl s).getD i.toNat 0 := by
  unfold bt bl
  split
  · rename_i h
    have h' : i.toNat < s.data.toList.length := by rw [Array.length_toList]; exact h
    rw [List.getD_eq_getElem?_getD, List.getElem?_map, List.getElem?_eq_getElem h']
    rfl
  · rename_i h
    have h' : s.data.toList.length ≤ i.toNat := by rw [Array.length_toList]; exact Nat.le_of_not_lt h
    rw [List.getD_eq_getElem?_getD, List.getElem?_map, List.getElem?_eq_none h']
    rfl
theorem bl_append (s t : ByteArray) : bl (s ++ t) = bl s ++ bl t := by simp [bl]
theorem bl_extract (s : ByteArray) (a b : Nat) : bl (s.extract a b) = ((bl s).drop a).take (b - a) := by
  simp [bl, List.map_take, List.map_drop]
theorem u8_ofNat (n : Int) (h : 0 ≤ n ∧ n < 256) : ((UInt8.ofNat n.toNat).toNat : Int) = n := by
  rw [UInt8.toNat_ofNat']
  omega
theorem bl_str (xs : List Int) (h : ∀ x ∈ xs, 0 ≤ x ∧ x < 256) : bl (strOfNums xs) = xs := by
  unfold bl
  rw [strOfNums_data, List.map_map]
  conv => rhs; rw [← List.map_id xs]
  exact List.map_congr_left fun x hx => u8_ofNat x (h x hx)
theorem str_bl (s : ByteArray) : strOfNums (bl s) = s := bl_inj (bl_str _ (bl_range s))
theorem str_size (xs : List Int) : (strOfNums xs).size = xs.length := strOfNums_size xs
theorem bl_nil : bl (⟨#[]⟩ : ByteArray) = [] := rfl
theorem bt_lo (s : ByteArray) (i : Int) : 0 ≤ bt s i := (bt_range s i).1
theorem bt_hi (s : ByteArray) (i : Int) : bt s i < 256 := by have := (bt_range s i).2; omega
theorem wr (n : Int) (h : -9223372036854775808 ≤ n) (h' : n ≤ 9223372036854775807) : wrap64 n = n := by unfold wrap64; omega
theorem wrn {z : Int} (n : Nat) (e : z = n) (h : n ≤ 9223372036854775807) : wrap64 z = n := by rw [e]; exact wr _ (by omega) (by omega)
theorem tdiv_pos (a b : Int) (h : 0 ≤ a) : Int.tdiv a b = a / b := Int.tdiv_eq_ediv_of_nonneg h
theorem tmod_pos (a b : Int) (h : 0 ≤ a) : Int.tmod a b = a % b := Int.tmod_eq_emod_of_nonneg h
theorem succ_of {k d : Nat} (h : d < k) : ∃ m, k = m + 1 := ⟨k - 1, by omega⟩
theorem drop_bt (s : ByteArray) (i : Nat) (h : i < s.size) : (bl s).drop i = bt s i :: (bl s).drop (i + 1) := by
  have h' : i < (bl s).length := by rw [bl_len]; exact h
  rw [List.drop_eq_getElem_cons h', bt_bl, Int.toNat_natCast, List.getD_eq_getElem?_getD, List.getElem?_eq_getElem h']
  rfl
theorem drop_end (s : ByteArray) (i : Nat) (h : s.size ≤ i) : (bl s).drop i = [] := List.drop_eq_nil_of_le (by rw [bl_len]; exact h)
theorem take_snoc_cons {α : Type} (p : List α) (b : α) (l : List α) : (p ++ b :: l).take (p.length + 1) = p ++ [b] := by
  rw [List.take_length_add_append]; simp
attribute [local irreducible] bt

-- snippet intlist
/-! lists of numbers: taken over, compared -/
theorem toInt_l0 (x : List Int) (h : x.length < 1000000000) : ∀ (d K j : Nat) (y : List Int), j + d = x.length → d < K → y.length = x.length → laws_toIntS.l0 K x y j = some (y.take j ++ (x.drop j)) := by
  intro d
  induction d with
  | zero =>
    intro K j y hj hK hy
    obtain ⟨K, rfl⟩ := succ_of hK
    simp only [laws_toIntS.l0]
    rw [if_neg (show ¬ (j : Int) < (x.length : Int) by omega), List.take_of_length_le (by omega), List.drop_eq_nil_of_le (by omega)]
    simp
  | succ d ih =>
    intro K j y hj hK hy
    obtain ⟨K, rfl⟩ := succ_of hK
    have hjx : j < x.length := by omega
    simp only [laws_toIntS.l0]
    rw [if_pos (show (j : Int) < (x.length : Int) by omega), if_pos (show 0 ≤ (j : Int) by omega), if_pos (show (j : Int) < (y.length : Int) by omega), wr ((j : Int) + 1) (by omega) (by omega), show ((j : Int) + 1) = ((j + 1 : Nat) : Int) by omega, Int.toNat_natCast, ih K (j + 1) _ (by omega) (by omega) (by simp; omega)]
    have e : rd x (j : Int) = x[j] := by unfold rd; rw [Int.toNat_natCast, List.getD_eq_getElem?_getD, List.getElem?_eq_getElem hjx]; rfl
    have t : (y.set j (rd x (j : Int))).take (j + 1) = y.take j ++ [x[j]] := by
      rw [List.take_set, List.take_succ_eq_append_getElem (show j < y.length by omega), List.set_append_right _ _ (by simp; omega), e]
      simp [show min j y.length = j by omega]
    rw [t, List.append_assoc, List.drop_eq_getElem_cons hjx]
    rfl
theorem toInt_f (x : List Int) (K : Nat) (h : x.length < 1000000000) (hK : x.length < K) : laws_toIntS.f K x = some x := by
  have := toInt_l0 x h x.length K 0 (List.replicate x.length 0) (by omega) hK (by simp)
  unfold laws_toIntS.f
  rw [if_pos (show 0 ≤ (x.length : Int) by omega), if_pos (by simp; omega)]
  simpa using this
theorem eqI_l0 (l : List Int) (h : l.length < 1000000000) : ∀ (d K i : Nat), i + d = l.length → d < K → laws_eqIntS.l0 K l l i = some true := by
  intro d
  induction d with
  | zero =>
    intro K i hi hK
    obtain ⟨K, rfl⟩ := succ_of hK
    simp only [laws_eqIntS.l0]
    rw [if_neg (by omega)]
  | succ d ih =>
    intro K i hi hK
    obtain ⟨K, rfl⟩ := succ_of hK
    simp only [laws_eqIntS.l0]
    rw [if_pos (by omega), if_pos (by omega), if_pos (by omega), if_true, wr _ (by omega) (by omega), show ((i : Int) + 1) = ((i + 1 : Nat) : Int) by omega]
    exact ih K (i + 1) (by omega) (by omega)
theorem eqI_f (l : List Int) (K : Nat) (h : l.length < 1000000000) (hK : l.length < K) : laws_eqIntS.f K l l = some true := by
  have := eqI_l0 l h l.length K 0 (by omega) hK
  unfold laws_eqIntS.f
  rw [if_pos rfl]
  simpa using this

-- snippet marksint
/-! marks in a list of ints -/
def mkI (c : Nat) : Nat → List Int
  | 0 => []
  | n + 1 => (c : Int) :: mkI (c + 1) n
theorem mkI_len : ∀ (n c : Nat), (mkI c n).length = n
  | 0, _ => rfl
  | n + 1, c => by simp only [mkI, List.length_cons, mkI_len n]
theorem markI_l0 : ∀ (rest done : List Int) (K c : Nat), done.length + rest.length < 1000000000 → c + rest.length < 1000000000 → rest.length < K →
    laws_markIntS.l0 K (done ++ rest) c done.length = some (((c + rest.length : Nat) : Int), done ++ mkI c rest.length)
  | [], done, K, c, h, h1, hK => by
    obtain ⟨K, rfl⟩ := succ_of hK
    simp only [laws_markIntS.l0]
    rw [if_neg (by simp)]
    simp [mkI]
  | x :: rest, done, K, c, h, h1, hK => by
    simp only [List.length_cons] at h h1 hK
    obtain ⟨K, rfl⟩ := succ_of hK
    simp only [laws_markIntS.l0]
    rw [if_pos (by simp only [List.length_append, List.length_cons]; omega), if_pos (by omega), wr _ (by omega) (by omega), wr _ (by omega) (by omega), Int.toNat_natCast]
    have e : (done ++ x :: rest).set done.length (c : Int) = (done ++ [(c : Int)]) ++ rest := by simp [List.set_append]
    have := markI_l0 rest (done ++ [(c : Int)]) K (c + 1) (by simp only [List.length_append, List.length_cons, List.length_nil]; omega) (by omega) (by omega)
    rw [List.length_append] at this
    rw [e]
    rw [show ((c : Int) + 1) = ((c + 1 : Nat) : Int) by omega, show ((done.length : Int) + 1) = ((done.length + [(c : Int)].length : Nat) : Int) by simp, this]
    simp [mkI]
    omega
theorem heldI_l0 : ∀ (n : Nat) (done : List Int) (K c : Nat), done.length + n < 1000000000 → c + n < 1000000000 → n < K →
    laws_heldIntS.l0 K (done ++ mkI c n) c done.length = some ((c + n : Nat) : Int)
  | 0, done, K, c, h, h1, hK => by
    obtain ⟨K, rfl⟩ := succ_of hK
    simp only [laws_heldIntS.l0]
    rw [if_neg (by simp [mkI])]
    simp
  | n + 1, done, K, c, h, h1, hK => by
    obtain ⟨K, rfl⟩ := succ_of hK
    simp only [laws_heldIntS.l0]
    have g : rd (done ++ mkI c (n + 1)) (done.length : Int) = (c : Int) := by simp [rd, mkI]
    rw [if_pos (by simp only [List.length_append, mkI_len]; omega), if_pos (by omega), g, if_pos rfl, wr _ (by omega) (by omega), wr _ (by omega) (by omega)]
    have := heldI_l0 n (done ++ [(c : Int)]) K (c + 1) (by simp only [List.length_append, List.length_cons, List.length_nil]; omega) (by omega) (by omega)
    rw [List.length_append] at this
    have e : done ++ mkI c (n + 1) = (done ++ [(c : Int)]) ++ mkI (c + 1) n := by simp [mkI]
    rw [e, show ((c : Int) + 1) = ((c + 1 : Nat) : Int) by omega, show ((done.length : Int) + 1) = ((done.length + [(c : Int)].length : Nat) : Int) by simp, this]
    congr 1
    omega
theorem markI_f (l : List Int) (K c : Nat) (h : l.length < 100000000) (hc : c < 100000000) (hK : l.length < K) : laws_markIntS.f K l (c : Int) = some (((c + l.length : Nat) : Int), mkI c l.length) := by
  have := markI_l0 l [] K c (by simp; omega) (by omega) (by omega)
  unfold laws_markIntS.f
  simpa using this
theorem heldI_f (n K : Nat) (h : n < 100000000) (hK : n < K) : laws_heldIntS.f K (mkI 1 n) 1 = some ((1 + n : Nat) : Int) := by
  have := heldI_l0 n [] K 1 (by simp; omega) (by omega) (by omega)
  unfold laws_heldIntS.f
  simpa using this

-- snippet polyok_impl
/-! right polynomials -/
def rightP (p : List Int) : Bool := decide (p.length = 256 ∧ ∀ x ∈ p, 0 ≤ x ∧ x ≤ 3328)
theorem rd_nat (l : List Int) (j : Nat) (h : j < l.length) : rd l (j : Int) = l[j] := by unfold rd; rw [Int.toNat_natCast, List.getD_eq_getElem?_getD, List.getElem?_eq_getElem h]; rfl
theorem all_drop (p : List Int) (j : Nat) (h : j < p.length) (P : Int → Prop) : (∀ x ∈ p.drop j, P x) ↔ P p[j] ∧ ∀ x ∈ p.drop (j + 1), P x := by
  rw [List.drop_eq_getElem_cons h]; exact List.forall_mem_cons
theorem impl_in_f (a b c : Int) : impl_in.f a b c = some (decide (b ≤ a ∧ a ≤ c)) := by
  unfold impl_in.f
  by_cases h : b ≤ a
  · rw [if_pos h]; simp [h]
  · rw [if_neg h]; simp [h]
theorem impl_pok_l0 (p : List Int) (h : p.length < 1000000000) : ∀ (d K j : Nat), j + d = p.length → d < K → impl_PolyOk.l0 K p p (p.length : Int) j = some (decide (p.length = 256 ∧ ∀ x ∈ p.drop j, 0 ≤ x ∧ x ≤ 3328)) := by
  intro d
  induction d with
  | zero =>
    intro K j hj hK
    obtain ⟨K, rfl⟩ := succ_of hK
    simp only [impl_PolyOk.l0]
    rw [if_neg (show ¬ (j : Int) < (p.length : Int) by omega), List.drop_eq_nil_of_le (by omega)]
    congr 1
    rw [Bool.eq_iff_iff]
    simp
    omega
  | succ d ih =>
    intro K j hj hK
    obtain ⟨K, rfl⟩ := succ_of hK
    have hjp : j < p.length := by omega
    simp only [impl_PolyOk.l0]
    rw [if_pos (show (j : Int) < (p.length : Int) by omega), if_pos (show 0 ≤ (j : Int) by omega), if_pos (show (j : Int) < (p.length : Int) by omega), impl_in_f, Option.bind_some, rd_nat p j hjp]
    by_cases c : 0 ≤ p[j] ∧ p[j] ≤ 3328
    · rw [if_pos (by simpa using c), wr ((j : Int) + 1) (by omega) (by omega), show ((j : Int) + 1) = ((j + 1 : Nat) : Int) by omega, ih K (j + 1) (by omega) (by omega)]
      congr 1
      rw [decide_eq_decide, all_drop p j hjp]
      exact ⟨fun q => ⟨q.1, c, q.2⟩, fun q => ⟨q.1, q.2.2⟩⟩
    · rw [if_neg (by simpa using c)]
      congr 1
      symm
      rw [decide_eq_false_iff_not, all_drop p j hjp]
      intro q
      exact c q.2.1
theorem impl_PolyOk_f (p : List Int) (K : Nat) (h : p.length < 1000000000) (hK : p.length < K) : impl_PolyOk.f K p = some (rightP p) := by
  have := impl_pok_l0 p h p.length K 0 (by omega) hK
  unfold impl_PolyOk.f
  simpa [rightP] using this

-- snippet modq
theorem modQ_f (x : Int) (h0 : -1200000000000 ≤ x) (h1 : x ≤ 1200000000000) : impl_modQ.f x = some (x % 3329) := by
  unfold impl_modQ.f
  have t0 := Int.tmod_lt_of_pos x (show (0 : Int) < 3329 by decide)
  have t1 := Int.lt_tmod_of_pos x (show (0 : Int) < 3329 by decide)
  have t2 := Int.tmod_add_mul_tdiv x 3329
  rw [wr _ (by omega) (by omega), tmod_pos _ _ (by omega)]
  congr 1
  omega
theorem rd_getD (l : List Int) (i : Nat) : rd l (i : Int) = l.getD i 0 := by unfold rd; rw [Int.toNat_natCast]

-- snippet polyadd_impl
/-! PolyAdd: number by number -/
def mapP (g : Int → Int → Int) (a b : List Int) : List Int := (List.range 256).map fun t => g (a.getD t 0) (b.getD t 0) % 3329
theorem mapP_len (g : Int → Int → Int) (a b : List Int) : (mapP g a b).length = 256 := by unfold mapP; rw [List.length_map, List.length_range]
theorem mapP_get (g : Int → Int → Int) (a b : List Int) (t : Nat) (h : t < (mapP g a b).length) : (mapP g a b)[t] = g (a.getD t 0) (b.getD t 0) % 3329 := by
  simp [mapP]
theorem right_get (p : List Int) (h : rightP p = true) (t : Nat) (ht : t < 256) : 0 ≤ p.getD t 0 ∧ p.getD t 0 ≤ 3328 := by
  have h' := of_decide_eq_true h
  have := h'.2 _ (show p[t]'(by omega) ∈ p from List.getElem_mem _)
  rw [List.getD_eq_getElem?_getD, List.getElem?_eq_getElem (show t < p.length by omega)]
  exact this
theorem each_l0 (a b : List Int) (ha : rightP a = true) (hb : rightP b = true) : ∀ (d t K : Nat) (z : List Int), t + d = 256 → d < K → z.length = d → impl_each.l0 K a b ((mapP (fun x y => x + y) a b).take t ++ z) 256 t = some (mapP (fun x y => x + y) a b) := by
  have la : a.length = 256 := (of_decide_eq_true ha).1
  have lb : b.length = 256 := (of_decide_eq_true hb).1
  have lm := mapP_len (fun x y => x + y) a b
  intro d
  induction d with
  | zero =>
    intro t K z ht hK hz
    obtain ⟨K, rfl⟩ := succ_of hK
    obtain rfl : z = [] := List.eq_nil_of_length_eq_zero hz
    simp only [impl_each.l0]
    rw [if_neg (show ¬ (t : Int) < 256 by omega), List.append_nil, List.take_of_length_le (by omega)]
  | succ d ih =>
    intro t K z ht hK hz
    obtain ⟨K, rfl⟩ := succ_of hK
    have t256 : t < 256 := by omega
    have c1 : (t : Int) < 256 := by omega
    have c2 : 0 ≤ (t : Int) := by omega
    have c3 : (t : Int) < (a.length : Int) := by omega
    have c4 : (t : Int) < (b.length : Int) := by omega
    have e1 : (t : Int) + 1 = ((t + 1 : Nat) : Int) := by omega
    have b1 : t + 1 ≤ 9223372036854775807 := by omega
    have c5 : (t : Int) < ((((mapP (fun x y => x + y) a b).take t ++ z).length : Nat) : Int) := by rw [List.length_append, List.length_take]; omega
    have k1 : t + 1 + d = 256 := by omega
    have k2 : d < K := by omega
    have lt : t < (mapP (fun x y => x + y) a b).length := by omega
    have tk : ((mapP (fun x y => x + y) a b).take t).length = t := by rw [List.length_take]; omega
    obtain ⟨x0, x1⟩ := right_get a ha t t256
    obtain ⟨y0, y1⟩ := right_get b hb t t256
    have g := mapP_get (fun x y => x + y) a b t lt
    cases z with
    | nil => simp at hz
    | cons z0 z =>
      have hz' : z.length = d := by simpa using hz
      have st : ((mapP (fun x y => x + y) a b).take t ++ z0 :: z).set t (a.getD t 0 + b.getD t 0) = (mapP (fun x y => x + y) a b).take t ++ (a.getD t 0 + b.getD t 0) :: z := by
        rw [List.set_append_right _ _ (by omega), tk, Nat.sub_self, List.set_cons_zero]
      have st2 : ((mapP (fun x y => x + y) a b).take t ++ z0 :: z).set t ((a.getD t 0 + b.getD t 0) % 3329) = (mapP (fun x y => x + y) a b).take (t + 1) ++ z := by
        rw [List.set_append_right _ _ (by omega), tk, Nat.sub_self, List.set_cons_zero, List.take_succ_eq_append_getElem lt, g, List.append_assoc]
        rfl
      have lo : -1200000000000 ≤ a.getD t 0 + b.getD t 0 := by omega
      have hi : a.getD t 0 + b.getD t 0 ≤ 1200000000000 := by omega
      have wsub : wrap64 (a.getD t 0 + b.getD t 0) = a.getD t 0 + b.getD t 0 := wr _ (by omega) (by omega)
      have w1 : wrap64 ((t : Int) + 1) = ((t + 1 : Nat) : Int) := wrn _ e1 b1
      simp only [impl_each.l0]
      rw [if_pos c1, if_pos c2, if_pos c3, if_pos c4]
      simp only [impl_PolyAdd_1.f]
      rw [Option.bind_some, rd_getD, rd_getD, wsub, modQ_f _ lo hi, Option.bind_some, if_pos c5, Int.toNat_natCast, st2, w1]
      exact ih (t + 1) K z k1 k2 hz'
def addP (a b : List Int) : List Int := if rightP a = true ∧ rightP b = true then mapP (fun x y => x + y) a b else []
theorem addP_len (a b : List Int) : (addP a b).length ≤ 256 := by
  unfold addP
  split
  · rw [mapP_len]; exact Nat.le_refl _
  · simp
theorem impl_PolyAdd_f (a b : List Int) (hl : a.length < 1000000000) (hl2 : b.length < 1000000000) (K : Nat) (hK : 1000100000 ≤ K) : impl_PolyAdd.f K a b = some (addP a b) := by
  obtain ⟨K, rfl⟩ : ∃ m, K = m + 1 := ⟨K - 1, by omega⟩
  unfold impl_PolyAdd.f impl_each.f
  rw [impl_PolyOk_f a _ hl (by omega), Option.bind_some]
  by_cases ha : rightP a = true
  · rw [if_pos ha, impl_PolyOk_f b _ hl2 (by omega), Option.bind_some]
    by_cases hb : rightP b = true
    · have k1 : 256 < K := by omega
      have := each_l0 a b ha hb 256 0 K (List.replicate 256 0) rfl k1 List.length_replicate
      rw [List.take_zero, List.nil_append, show ((0 : Nat) : Int) = 0 from rfl] at this
      rw [impl_each.j0, if_neg (by simp [hb]), if_pos (by decide), Option.bind_some, show (((List.replicate 256 (0 : Int)).length : Nat) : Int) = 256 by rw [List.length_replicate]; rfl, this]
      simp [addP, ha, hb]
    · rw [impl_each.j0, if_pos (by simpa using hb)]
      simp [addP, hb]
  · rw [if_neg ha, impl_each.j0, if_pos rfl]
    simp [addP, ha]

-- snippet polyok_spec
theorem spec_in_f (a b c : Int) : spec_l01In.f a b c = some (decide (b ≤ a ∧ a ≤ c)) := impl_in_f a b c
theorem spec_pok_l0 (p : List Int) (h : p.length < 1000000000) : ∀ (d K j : Nat), j + d = p.length → d < K → spec_PolyOk.l0 K p j = some (decide (∀ x ∈ p.drop j, 0 ≤ x ∧ x ≤ 3328)) := by
  intro d
  induction d with
  | zero =>
    intro K j hj hK
    obtain ⟨K, rfl⟩ := succ_of hK
    simp only [spec_PolyOk.l0]
    rw [if_neg (show ¬ (j : Int) < (p.length : Int) by omega), List.drop_eq_nil_of_le (by omega)]
    simp
  | succ d ih =>
    intro K j hj hK
    obtain ⟨K, rfl⟩ := succ_of hK
    have hjp : j < p.length := by omega
    simp only [spec_PolyOk.l0]
    rw [if_pos (show (j : Int) < (p.length : Int) by omega), if_pos (show 0 ≤ (j : Int) by omega), spec_in_f, Option.bind_some, rd_nat p j hjp]
    by_cases c : 0 ≤ p[j] ∧ p[j] ≤ 3328
    · rw [if_pos (by simpa using c), wr ((j : Int) + 1) (by omega) (by omega), show ((j : Int) + 1) = ((j + 1 : Nat) : Int) by omega, ih K (j + 1) (by omega) (by omega)]
      congr 1
      rw [decide_eq_decide, all_drop p j hjp]
      exact ⟨fun q => ⟨c, q⟩, fun q => q.2⟩
    · rw [if_neg (by simpa using c)]
      congr 1
      symm
      rw [decide_eq_false_iff_not, all_drop p j hjp]
      intro q
      exact c q.1
theorem spec_PolyOk_f (p : List Int) (K : Nat) (h : p.length < 1000000000) (hK : p.length < K) : spec_PolyOk.f K p = some (rightP p) := by
  have := spec_pok_l0 p h p.length K 0 (by omega) hK
  unfold spec_PolyOk.f
  by_cases c : p.length = 256
  · rw [if_pos (by omega)]
    simp only [List.drop_zero, Int.natCast_zero] at this
    rw [this]
    simp [rightP, c]
  · rw [if_neg (by omega)]
    simp [rightP, c]

-- snippet polyadd_spec
theorem spec_add_l0 (a b : List Int) (ha : rightP a = true) (hb : rightP b = true) : ∀ (d t K : Nat), t + d = 256 → 300 + d < K → spec_PolyAdd.l0 K a b ((mapP (fun x y => x + y) a b).take t) t = some (mapP (fun x y => x + y) a b) := by
  have la : a.length = 256 := (of_decide_eq_true ha).1
  have lb : b.length = 256 := (of_decide_eq_true hb).1
  have lm := mapP_len (fun x y => x + y) a b
  intro d
  induction d with
  | zero =>
    intro t K ht hK
    obtain ⟨K, rfl⟩ := succ_of hK
    simp only [spec_PolyAdd.l0]
    rw [if_neg (show ¬ (t : Int) < 256 by omega), List.take_of_length_le (by omega)]
  | succ d ih =>
    intro t K ht hK
    obtain ⟨K, rfl⟩ := succ_of hK
    have t256 : t < 256 := by omega
    have c1 : (t : Int) < 256 := by omega
    have c2 : 0 ≤ (t : Int) := by omega
    have c3 : (t : Int) < (a.length : Int) := by omega
    have c4 : (t : Int) < (b.length : Int) := by omega
    have e1 : (t : Int) + 1 = ((t + 1 : Nat) : Int) := by omega
    have b1 : t + 1 ≤ 9223372036854775807 := by omega
    have k1 : t + 1 + d = 256 := by omega
    have k2 : 300 + d < K := by omega
    have k3 : a.length < K := by omega
    have k4 : b.length < K := by omega
    have k5 : a.length < 1000000000 := by omega
    have k6 : b.length < 1000000000 := by omega
    have lt : t < (mapP (fun x y => x + y) a b).length := by omega
    have tk : ((mapP (fun x y => x + y) a b).take t).length < 17592186044416 := by rw [List.length_take]; omega
    obtain ⟨x0, x1⟩ := right_get a ha t t256
    obtain ⟨y0, y1⟩ := right_get b hb t t256
    have g := mapP_get (fun x y => x + y) a b t lt
    have m0 : 0 ≤ a.getD t 0 + b.getD t 0 := by omega
    have wadd : wrap64 (a.getD t 0 + b.getD t 0) = a.getD t 0 + b.getD t 0 := wr _ (by omega) (by omega)
    have w1 : wrap64 ((t : Int) + 1) = ((t + 1 : Nat) : Int) := wrn _ e1 b1
    simp only [spec_PolyAdd.l0]
    rw [if_pos c1, spec_PolyOk_f a K k5 k3, Option.bind_some, if_pos ha, spec_PolyOk_f b K k6 k4, Option.bind_some, if_pos hb, if_pos c2, if_pos c3, if_pos c4, if_pos tk, rd_getD, rd_getD, wadd, tmod_pos _ _ m0, w1]
    have := ih (t + 1) K k1 k2
    rw [List.take_succ_eq_append_getElem lt, g] at this
    exact this
theorem spec_PolyAdd_f (a b : List Int) (hl : a.length < 1000000000) (hl2 : b.length < 1000000000) (K : Nat) (hK : 1000100000 ≤ K) : spec_PolyAdd.f K a b = some (addP a b) := by
  unfold spec_PolyAdd.f
  by_cases h : rightP a = true ∧ rightP b = true
  · have k1 : 300 + 256 < K := by omega
    have := spec_add_l0 a b h.1 h.2 256 0 K rfl k1
    rw [List.take_zero, show ((0 : Nat) : Int) = 0 from rfl] at this
    rw [this]
    unfold addP
    rw [if_pos h]
  · obtain ⟨K, rfl⟩ : ∃ m, K = m + 1 := ⟨K - 1, by omega⟩
    rw [spec_PolyAdd.l0, if_pos (by decide), spec_PolyOk_f a _ hl (by omega), Option.bind_some]
    unfold addP
    rw [if_neg h]
    by_cases ha : rightP a = true
    · rw [if_pos ha, spec_PolyOk_f b _ hl2 (by omega), Option.bind_some, if_neg (fun hb => h ⟨ha, hb⟩)]
    · rw [if_neg ha]
theorem PolyAdd_both (a b : List Int) (hl : a.length < 1000000000) (hl2 : b.length < 1000000000) : ∃ r : List Int, r.length ≤ 256 ∧ ∀ K, 1000100000 ≤ K → spec_PolyAdd.f K a b = some r ∧ impl_PolyAdd.f K a b = some r :=
  ⟨addP a b, addP_len a b, fun K hK => ⟨spec_PolyAdd_f a b hl hl2 K hK, impl_PolyAdd_f a b hl hl2 K hK⟩⟩

theorem FnExactPolyAdd : laws_FnExactPolyAdd.Pure := by
  intro a b _ _ _ _ _ _
  refine ⟨1000100010, ?_⟩
  unfold laws_FnExactPolyAdd.f
  by_cases h : (a.length : Int) > 1048576
  · rw [if_pos h]
  · by_cases h2 : (b.length : Int) > 1048576
    · rw [if_neg h, if_pos h2]
    · obtain ⟨r, hr, both⟩ := PolyAdd_both a b (by omega) (by omega)
      have tia : ∀ K, 1048576 < K → laws_toIntS.f K a = some a := fun K hK => toInt_f a K (by omega) (by omega)
      have tib : ∀ K, 1048576 < K → laws_toIntS.f K b = some b := fun K hK => toInt_f b K (by omega) (by omega)
      have eqr : ∀ K, 1048576 < K → laws_eqIntS.f K r r = some true := fun K hK => eqI_f r K (by omega) (by omega)
      have mr : ∀ K, 1048576 < K → laws_markIntS.f K r 1 = some (((1 + r.length : Nat) : Int), mkI 1 r.length) := fun K hK => markI_f r K 1 (by omega) (by omega) (by omega)
      have he : ∀ K, 1048576 < K → laws_heldIntS.f K (mkI 1 r.length) 1 = some ((1 + r.length : Nat) : Int) := fun K hK => heldI_f r.length K (by omega) (by omega)
      have rn : ¬ ((1 + r.length : Nat) : Int) < 0 := by omega
      have b1 := both 1000100010 (by omega)
      have b2 := both 1000100009 (by omega)
      have am := markI_f a 1000100010 1 (by omega) (by omega) (by omega)
      have bm := markI_f b 1000100010 (1 + a.length) (by omega) (by omega) (by omega)
      have bn : ¬ ((1 + a.length + b.length : Nat) : Int) < 0 := by omega
      have j : laws_FnExactPolyAdd.j0 1000100010 a b r r false = some true := by
        rw [laws_FnExactPolyAdd.j0, if_neg (by simp), mr _ (by omega), Option.bind_some]
        dsimp only
        rw [he _ (by omega), Option.bind_some, if_neg rn, if_pos rfl, tia _ (by omega), Option.bind_some, tib _ (by omega), Option.bind_some, b2.2, Option.bind_some, eqr _ (by omega), Option.bind_some, if_pos rfl, Option.bind_some, if_neg rn, if_pos rfl]
      rw [if_neg h, if_neg h2, tia _ (by omega), Option.bind_some, tib _ (by omega), Option.bind_some, b1.1, Option.bind_some, Option.bind_some, Option.bind_some, b1.2, Option.bind_some, eqr _ (by omega), Option.bind_some, if_pos rfl, Option.bind_some, eqI_f a _ (by omega) (by omega), Option.bind_some, if_pos rfl, Option.bind_some, eqI_f b _ (by omega) (by omega), Option.bind_some, if_pos rfl]
      rw [show ((1 : Nat) : Int) = 1 from rfl] at am
      rw [am, Option.bind_some]
      dsimp only
      rw [bm, Option.bind_some]
      dsimp only
      rw [if_neg bn, Option.bind_some]
      exact j

end Go.Proofs.Ytnbggmmpmppnaaa.Pure
