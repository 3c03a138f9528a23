/- Of every two lists of ints the program's PolyMul and the reference's give the same list, which is new memory, and the lists stay. No condition but the form's own bound on a slice's size. -/
import Derived.Test.YtnbggmmpmppnaaaPFnExactPolyMulx4
set_option linter.unusedVariables false
set_option linter.unusedSimpArgs false
namespace Go.Proofs.Ytnbggmmpmppnaaa.Pure
open Go.RowKit Go.Proofs.Ytnbggmmpmppnaaa.PFnExactPolyMul Go.Proofs.YtnbggmmpmppnaaaW.PrintWords Go.Proofs.YtnbggmmpmppnaaaW.PrintLast Go.Proofs.YtnbggmmpmppnaaaW.PrintMore

-- snippet plain
/-! bytes as numbers -/
def bl (s : ByteArray) : List Int := s.data.toList.map fun b => (b.toNat : Int)
theorem bl_len (s : ByteArray) : (bl s).length = s.size := by unfold bl; rw [List.length_map, Array.length_toList]; rfl
theorem map_u8_inj : ∀ {a b : List UInt8}, a.map (fun b => (b.toNat : Int)) = b.map (fun b => (b.toNat : Int)) → a = b
  | [], [], _ => rfl
  | [], _ :: _, h => by simp at h
  | _ :: _, [], h => by simp at h
  | x :: a, y :: b, h => by
    simp only [List.map_cons, List.cons.injEq] at h
    have e : x = y := UInt8.toNat_inj.mp (by omega)
    rw [e, map_u8_inj h.2]
theorem bl_inj {s t : ByteArray} (h : bl s = bl t) : s = t := by
  have := map_u8_inj h
  cases s; cases t
  simp only [ByteArray.mk.injEq] at *
  exact Array.toList_inj.mp this
theorem bl_eq {s t : ByteArray} : s = t ↔ bl s = bl t := ⟨fun h => by rw [h], bl_inj⟩
theorem toList_bl {s t : ByteArray} : s.toList = t.toList ↔ bl s = bl t := by
  rw [ByteArray.toList_eq, ByteArray.toList_eq]
  exact ⟨fun h => by unfold bl; rw [h], fun h => by rw [bl_inj h]⟩
theorem bl_range (s : ByteArray) : ∀ x ∈ bl s, 0 ≤ x ∧ x < 256 := by
  intro x hx
  simp only [bl, List.mem_map] at hx
  obtain ⟨b, _, rfl⟩ := hx
  have := b.toNat_lt
  omega
theorem bt_bl (s : ByteArray) (i : Int) : bt s i = (bl s).getD i.toNat 0 := by
  unfold bt bl
  split
  · rename_i h
    have h' : i.toNat < s.data.toList.length := by rw [Array.length_toList]; exact h
    rw [List.getD_eq_getElem?_getD, List.getElem?_map, List.getElem?_eq_getElem h']
    rfl
  · rename_i h
    have h' : s.data.toList.length ≤ i.toNat := by rw [Array.length_toList]; exact Nat.le_of_not_lt h
    rw [List.getD_eq_getElem?_getD, List.getElem?_map, List.getElem?_eq_none h']
    rfl
theorem bl_append (s t : ByteArray) : bl (s ++ t) = bl s ++ bl t := by simp [bl]
theorem bl_extract (s : ByteArray) (a b : Nat) : bl (s.extract a b) = ((bl s).drop a).take (b - a) := by
  simp [bl, List.map_take, List.map_drop]
theorem u8_ofNat (n : Int) (h : 0 ≤ n ∧ n < 256) : ((UInt8.ofNat n.toNat).toNat : Int) = n := by
  rw [UInt8.toNat_ofNat']
  omega
theorem bl_str (xs : List Int) (h : ∀ x ∈ xs, 0 ≤ x ∧ x < 256) : bl (strOfNums xs) = xs := by
  unfold bl
  rw [strOfNums_data, List.map_map]
  conv => rhs; rw [← List.map_id xs]
  exact List.map_congr_left fun x hx => u8_ofNat x (h x hx)
theorem str_bl (s : ByteArray) : strOfNums (bl s) = s := bl_inj (bl_str _ (bl_range s))
theorem str_size (xs : List Int) : (strOfNums xs).size = xs.length := strOfNums_size xs
theorem bl_nil : bl (⟨#[]⟩ : ByteArray) = [] := rfl
theorem bt_lo (s : ByteArray) (i : Int) : 0 ≤ bt s i := (bt_range s i).1
theorem bt_hi (s : ByteArray) (i : Int) : bt s i < 256 := by have := (bt_range s i).2; omega
theorem wr (n : Int) (h : -9223372036854775808 ≤ n) (h' : n ≤ 9223372036854775807) : wrap64 n = n := by unfold wrap64; omega
theorem wrn {z : Int} (n : Nat) (e : z = n) (h : n ≤ 9223372036854775807) : wrap64 z = n := by rw [e]; exact wr _ (by omega) (by omega)
theorem tdiv_pos (a b : Int) (h : 0 ≤ a) : Int.tdiv a b = a / b := Int.tdiv_eq_ediv_of_nonneg h
theorem tmod_pos (a b : Int) (h : 0 ≤ a) : Int.tmod a b = a % b := Int.tmod_eq_emod_of_nonneg h
theorem succ_of {k d : Nat} (h : d < k) : ∃ m, k = m + 1 := ⟨k - 1, by omega⟩
theorem drop_bt (s : ByteArray) (i : Nat) (h : i < s.size) : (bl s).drop i = bt s i :: (bl s).drop (i + 1) := by
  have h' : i < (bl s).length := by rw [bl_len]; exact h
  rw [List.drop_eq_getElem_cons h', bt_bl, Int.toNat_natCast, List.getD_eq_getElem?_getD, List.getElem?_eq_getElem h']
  rfl
theorem drop_end (s : ByteArray) (i : Nat) (h : s.size ≤ i) : (bl s).drop i = [] := List.drop_eq_nil_of_le (by rw [bl_len]; exact h)
theorem take_snoc_cons {α : Type} (p : List α) (b : α) (l : List α) : (p ++ b :: l).take (p.length + 1) = p ++ [b] := by
  rw [List.take_length_add_append]; simp
attribute [local irreducible] bt

-- snippet intlist
/-! lists of numbers: taken over, compared -/
theorem toInt_l0 (x : List Int) (h : x.length < 1000000000) : ∀ (d K j : Nat) (y : List Int), j + d = x.length → d < K → y.length = x.length → laws_toIntS.l0 K x y j = some (y.take j ++ (x.drop j)) := by
  intro d
  induction d with
  | zero =>
    intro K j y hj hK hy
    obtain ⟨K, rfl⟩ := succ_of hK
    simp only [laws_toIntS.l0]
    rw [if_neg (show ¬ (j : Int) < (x.length : Int) by omega), List.take_of_length_le (by omega), List.drop_eq_nil_of_le (by omega)]
    simp
  | succ d ih =>
    intro K j y hj hK hy
    obtain ⟨K, rfl⟩ := succ_of hK
    have hjx : j < x.length := by omega
    simp only [laws_toIntS.l0]
    rw [if_pos (show (j : Int) < (x.length : Int) by omega), if_pos (show 0 ≤ (j : Int) by omega), if_pos (show (j : Int) < (y.length : Int) by omega), wr ((j : Int) + 1) (by omega) (by omega), show ((j : Int) + 1) = ((j + 1 : Nat) : Int) by omega, Int.toNat_natCast, ih K (j + 1) _ (by omega) (by omega) (by simp; omega)]
    have e : rd x (j : Int) = x[j] := by unfold rd; rw [Int.toNat_natCast, List.getD_eq_getElem?_getD, List.getElem?_eq_getElem hjx]; rfl
    have t : (y.set j (rd x (j : Int))).take (j + 1) = y.take j ++ [x[j]] := by
      rw [List.take_set, List.take_succ_eq_append_getElem (show j < y.length by omega), List.set_append_right _ _ (by simp; omega), e]
      simp [show min j y.length = j by omega]
    rw [t, List.append_assoc, List.drop_eq_getElem_cons hjx]
    rfl
theorem toInt_f (x : List Int) (K : Nat) (h : x.length < 1000000000) (hK : x.length < K) : laws_toIntS.f K x = some x := by
  have := toInt_l0 x h x.length K 0 (List.replicate x.length 0) (by omega) hK (by simp)
  unfold laws_toIntS.f
  rw [if_pos (show 0 ≤ (x.length : Int) by omega), if_pos (by simp; omega)]
  simpa using this
theorem eqI_l0 (l : List Int) (h : l.length < 1000000000) : ∀ (d K i : Nat), i + d = l.length → d < K → laws_eqIntS.l0 K l l i = some true := by
  intro d
  induction d with
  | zero =>
    intro K i hi hK
    obtain ⟨K, rfl⟩ := succ_of hK
    simp only [laws_eqIntS.l0]
    rw [if_neg (by omega)]
  | succ d ih =>
    intro K i hi hK
    obtain ⟨K, rfl⟩ := succ_of hK
    simp only [laws_eqIntS.l0]
    rw [if_pos (by omega), if_pos (by omega), if_pos (by omega), if_true, wr _ (by omega) (by omega), show ((i : Int) + 1) = ((i + 1 : Nat) : Int) by omega]
    exact ih K (i + 1) (by omega) (by omega)
theorem eqI_f (l : List Int) (K : Nat) (h : l.length < 1000000000) (hK : l.length < K) : laws_eqIntS.f K l l = some true := by
  have := eqI_l0 l h l.length K 0 (by omega) hK
  unfold laws_eqIntS.f
  rw [if_pos rfl]
  simpa using this

-- snippet marksint
/-! marks in a list of ints -/
def mkI (c : Nat) : Nat → List Int
  | 0 => []
  | n + 1 => (c : Int) :: mkI (c + 1) n
theorem mkI_len : ∀ (n c : Nat), (mkI c n).length = n
  | 0, _ => rfl
  | n + 1, c => by simp only [mkI, List.length_cons, mkI_len n]
theorem markI_l0 : ∀ (rest done : List Int) (K c : Nat), done.length + rest.length < 1000000000 → c + rest.length < 1000000000 → rest.length < K →
    laws_markIntS.l0 K (done ++ rest) c done.length = some (((c + rest.length : Nat) : Int), done ++ mkI c rest.length)
  | [], done, K, c, h, h1, hK => by
    obtain ⟨K, rfl⟩ := succ_of hK
    simp only [laws_markIntS.l0]
    rw [if_neg (by simp)]
    simp [mkI]
  | x :: rest, done, K, c, h, h1, hK => by
    simp only [List.length_cons] at h h1 hK
    obtain ⟨K, rfl⟩ := succ_of hK
    simp only [laws_markIntS.l0]
    rw [if_pos (by simp only [List.length_append, List.length_cons]; omega), if_pos (by omega), wr _ (by omega) (by omega), wr _ (by omega) (by omega), Int.toNat_natCast]
    have e : (done ++ x :: rest).set done.length (c : Int) = (done ++ [(c : Int)]) ++ rest := by simp [List.set_append]
    have := markI_l0 rest (done ++ [(c : Int)]) K (c + 1) (by simp only [List.length_append, List.length_cons, List.length_nil]; omega) (by omega) (by omega)
    rw [List.length_append] at this
    rw [e]
    rw [show ((c : Int) + 1) = ((c + 1 : Nat) : Int) by omega, show ((done.length : Int) + 1) = ((done.length + [(c : Int)].length : Nat) : Int) by simp, this]
    simp [mkI]
    omega
theorem heldI_l0 : ∀ (n : Nat) (done : List Int) (K c : Nat), done.length + n < 1000000000 → c + n < 1000000000 → n < K →
    laws_heldIntS.l0 K (done ++ mkI c n) c done.length = some ((c + n : Nat) : Int)
  | 0, done, K, c, h, h1, hK => by
    obtain ⟨K, rfl⟩ := succ_of hK
    simp only [laws_heldIntS.l0]
    rw [if_neg (by simp [mkI])]
    simp
  | n + 1, done, K, c, h, h1, hK => by
    obtain ⟨K, rfl⟩ := succ_of hK
    simp only [laws_heldIntS.l0]
    have g : rd (done ++ mkI c (n + 1)) (done.length : Int) = (c : Int) := by simp [rd, mkI]
    rw [if_pos (by simp only [List.length_append, mkI_len]; omega), if_pos (by omega), g, if_pos rfl, wr _ (by omega) (by omega), wr _ (by omega) (by omega)]
    have := heldI_l0 n (done ++ [(c : Int)]) K (c + 1) (by simp only [List.length_append, List.length_cons, List.length_nil]; omega) (by omega) (by omega)
    rw [List.length_append] at this
    have e : done ++ mkI c (n + 1) = (done ++ [(c : Int)]) ++ mkI (c + 1) n := by simp [mkI]
    rw [e, show ((c : Int) + 1) = ((c + 1 : Nat) : Int) by omega, show ((done.length : Int) + 1) = ((done.length + [(c : Int)].length : Nat) : Int) by simp, this]
    congr 1
    omega
theorem markI_f (l : List Int) (K c : Nat) (h : l.length < 100000000) (hc : c < 100000000) (hK : l.length < K) : laws_markIntS.f K l (c : Int) = some (((c + l.length : Nat) : Int), mkI c l.length) := by
  have := markI_l0 l [] K c (by simp; omega) (by omega) (by omega)
  unfold laws_markIntS.f
  simpa using this
theorem heldI_f (n K : Nat) (h : n < 100000000) (hK : n < K) : laws_heldIntS.f K (mkI 1 n) 1 = some ((1 + n : Nat) : Int) := by
  have := heldI_l0 n [] K 1 (by simp; omega) (by omega) (by omega)
  unfold laws_heldIntS.f
  simpa using this

-- snippet polyok_impl
/-! right polynomials -/
def rightP (p : List Int) : Bool := decide (p.length = 256 ∧ ∀ x ∈ p, 0 ≤ x ∧ x ≤ 3328)
theorem rd_nat (l : List Int) (j : Nat) (h : j < l.length) : rd l (j : Int) = l[j] := by unfold rd; rw [Int.toNat_natCast, List.getD_eq_getElem?_getD, List.getElem?_eq_getElem h]; rfl
theorem all_drop (p : List Int) (j : Nat) (h : j < p.length) (P : Int → Prop) : (∀ x ∈ p.drop j, P x) ↔ P p[j] ∧ ∀ x ∈ p.drop (j + 1), P x := by
  rw [List.drop_eq_getElem_cons h]; exact List.forall_mem_cons
theorem impl_in_f (a b c : Int) : impl_in.f a b c = some (decide (b ≤ a ∧ a ≤ c)) := by
  unfold impl_in.f
  by_cases h : b ≤ a
  · rw [if_pos h]; simp [h]
  · rw [if_neg h]; simp [h]
theorem impl_pok_l0 (p : List Int) (h : p.length < 1000000000) : ∀ (d K j : Nat), j + d = p.length → d < K → impl_PolyOk.l0 K p p (p.length : Int) j = some (decide (p.length = 256 ∧ ∀ x ∈ p.drop j, 0 ≤ x ∧ x ≤ 3328)) := by
  intro d
  induction d with
  | zero =>
    intro K j hj hK
    obtain ⟨K, rfl⟩ := succ_of hK
    simp only [impl_PolyOk.l0]
    rw [if_neg (show ¬ (j : Int) < (p.length : Int) by omega), List.drop_eq_nil_of_le (by omega)]
    congr 1
    rw [Bool.eq_iff_iff]
    simp
    omega
  | succ d ih =>
    intro K j hj hK
    obtain ⟨K, rfl⟩ := succ_of hK
    have hjp : j < p.length := by omega
    simp only [impl_PolyOk.l0]
    rw [if_pos (show (j : Int) < (p.length : Int) by omega), if_pos (show 0 ≤ (j : Int) by omega), if_pos (show (j : Int) < (p.length : Int) by omega), impl_in_f, Option.bind_some, rd_nat p j hjp]
    by_cases c : 0 ≤ p[j] ∧ p[j] ≤ 3328
    · rw [if_pos (by simpa using c), wr ((j : Int) + 1) (by omega) (by omega), show ((j : Int) + 1) = ((j + 1 : Nat) : Int) by omega, ih K (j + 1) (by omega) (by omega)]
      congr 1
      rw [decide_eq_decide, all_drop p j hjp]
      exact ⟨fun q => ⟨q.1, c, q.2⟩, fun q => ⟨q.1, q.2.2⟩⟩
    · rw [if_neg (by simpa using c)]
      congr 1
      symm
      rw [decide_eq_false_iff_not, all_drop p j hjp]
      intro q
      exact c q.2.1
theorem impl_PolyOk_f (p : List Int) (K : Nat) (h : p.length < 1000000000) (hK : p.length < K) : impl_PolyOk.f K p = some (rightP p) := by
  have := impl_pok_l0 p h p.length K 0 (by omega) hK
  unfold impl_PolyOk.f
  simpa [rightP] using this

-- snippet polyok_spec
theorem spec_in_f (a b c : Int) : spec_l01In.f a b c = some (decide (b ≤ a ∧ a ≤ c)) := impl_in_f a b c
theorem spec_pok_l0 (p : List Int) (h : p.length < 1000000000) : ∀ (d K j : Nat), j + d = p.length → d < K → spec_PolyOk.l0 K p j = some (decide (∀ x ∈ p.drop j, 0 ≤ x ∧ x ≤ 3328)) := by
  intro d
  induction d with
  | zero =>
    intro K j hj hK
    obtain ⟨K, rfl⟩ := succ_of hK
    simp only [spec_PolyOk.l0]
    rw [if_neg (show ¬ (j : Int) < (p.length : Int) by omega), List.drop_eq_nil_of_le (by omega)]
    simp
  | succ d ih =>
    intro K j hj hK
    obtain ⟨K, rfl⟩ := succ_of hK
    have hjp : j < p.length := by omega
    simp only [spec_PolyOk.l0]
    rw [if_pos (show (j : Int) < (p.length : Int) by omega), if_pos (show 0 ≤ (j : Int) by omega), spec_in_f, Option.bind_some, rd_nat p j hjp]
    by_cases c : 0 ≤ p[j] ∧ p[j] ≤ 3328
    · rw [if_pos (by simpa using c), wr ((j : Int) + 1) (by omega) (by omega), show ((j : Int) + 1) = ((j + 1 : Nat) : Int) by omega, ih K (j + 1) (by omega) (by omega)]
      congr 1
      rw [decide_eq_decide, all_drop p j hjp]
      exact ⟨fun q => ⟨c, q⟩, fun q => q.2⟩
    · rw [if_neg (by simpa using c)]
      congr 1
      symm
      rw [decide_eq_false_iff_not, all_drop p j hjp]
      intro q
      exact c q.1
theorem spec_PolyOk_f (p : List Int) (K : Nat) (h : p.length < 1000000000) (hK : p.length < K) : spec_PolyOk.f K p = some (rightP p) := by
  have := spec_pok_l0 p h p.length K 0 (by omega) hK
  unfold spec_PolyOk.f
  by_cases c : p.length = 256
  · rw [if_pos (by omega)]
    simp only [List.drop_zero, Int.natCast_zero] at this
    rw [this]
    simp [rightP, c]
  · rw [if_neg (by omega)]
    simp [rightP, c]

-- snippet polymul
/-! PolyMul: the program adds up first, the reference takes modulo Q at each step -/
def inv2 (B : Int) (u v : List Int) : Prop := u.length = 256 ∧ v.length = 256 ∧ ∀ t, t < 256 → 0 ≤ v.getD t 0 ∧ v.getD t 0 < 3329 ∧ v.getD t 0 = u.getD t 0 % 3329 ∧ -B ≤ u.getD t 0 ∧ u.getD t 0 ≤ B
theorem getD_set (l : List Int) (i t : Nat) (x : Int) (hi : i < l.length) : (l.set i x).getD t 0 = if t = i then x else l.getD t 0 := by
  rw [List.getD_eq_getElem?_getD, List.getD_eq_getElem?_getD, List.getElem?_set]
  by_cases h : i = t
  · subst h; simp [hi]
  · rw [if_neg h, if_neg (fun e => h e.symm)]
theorem inv2_step (B : Int) (u v : List Int) (h : inv2 B u v) (i : Nat) (hi : i < 256) (x y : Int) (B' : Int) (hy0 : 0 ≤ y) (hy1 : y < 3329) (hxy : y = x % 3329) (hB : B ≤ B') (hx0 : -B' ≤ x) (hx1 : x ≤ B') : inv2 B' (u.set i x) (v.set i y) := by
  obtain ⟨hu, hv, ha⟩ := h
  refine ⟨by simp [hu], by simp [hv], fun t ht => ?_⟩
  rw [getD_set u i t x (by omega), getD_set v i t y (by omega)]
  by_cases e : t = i
  · rw [if_pos e, if_pos e]; exact ⟨hy0, hy1, hxy, hx0, hx1⟩
  · rw [if_neg e, if_neg e]
    obtain ⟨a, b, c, d, f⟩ := ha t ht
    exact ⟨a, b, c, by omega, by omega⟩
theorem rd_getD (l : List Int) (i : Nat) : rd l (i : Int) = l.getD i 0 := by unfold rd; rw [Int.toNat_natCast]
theorem mul_bound (a b : Int) (ha0 : 0 ≤ a) (ha : a ≤ 3328) (hb0 : 0 ≤ b) (hb : b ≤ 3328) : 0 ≤ a * b ∧ a * b ≤ 11075584 := by
  refine ⟨Int.mul_nonneg ha0 hb0, ?_⟩
  have := Int.mul_le_mul ha hb hb0 (by decide : (0 : Int) ≤ 3328)
  omega
theorem spec_lo (K : Nat) (a b v : List Int) (i k : Nat) (x y : Int) (hx : rd a (i : Int) * rd b (k : Int) = x) (h0 : 0 ≤ x) (h1 : x ≤ 11075584) (hy : v.getD (i + k) 0 = y) (y0 : 0 ≤ y) (y1 : y < 3329) (hik : i + k < 256) (la : a.length = 256) (lb : b.length = 256) (lv : v.length = 256) :
    spec_PolyMul.l1 (K + 1) a b v i k = spec_PolyMul.l1 K a b (v.set (i + k) ((y + x % 3329) % 3329)) i ((k + 1 : Nat) : Int) := by
  have z1 : (k : Int) < 256 := by omega
  have z2 : 0 ≤ (i : Int) := by omega
  have z3 : (i : Int) < (a.length : Int) := by omega
  have z4 : 0 ≤ (k : Int) := by omega
  have z5 : (k : Int) < (b.length : Int) := by omega
  have z6 : ¬ ((i + k : Nat) : Int) ≥ 256 := by omega
  have z7 : 0 ≤ ((i + k : Nat) : Int) := by omega
  have z8 : ((i + k : Nat) : Int) < (v.length : Int) := by omega
  have e1 : (i : Int) + (k : Int) = ((i + k : Nat) : Int) := by omega
  have e2 : (k : Int) + 1 = ((k + 1 : Nat) : Int) := by omega
  have b1 : i + k ≤ 9223372036854775807 := by omega
  have b2 : k + 1 ≤ 9223372036854775807 := by omega
  have a6 : -9223372036854775808 ≤ y + x % 3329 := by omega
  have c6 : y + x % 3329 ≤ 9223372036854775807 := by omega
  have a7 : 0 ≤ y + x % 3329 := by omega
  have ax : -9223372036854775808 ≤ x := by omega
  have cx : x ≤ 9223372036854775807 := by omega
  have wx : wrap64 x = x := wr x ax cx
  have w1 : wrap64 ((i : Int) + (k : Int)) = ((i + k : Nat) : Int) := wrn _ e1 b1
  have w2 : wrap64 ((k : Int) + 1) = ((k + 1 : Nat) : Int) := wrn _ e2 b2
  have w6 : wrap64 (y + x % 3329) = y + x % 3329 := wr _ a6 c6
  have w7 : Int.tmod (y + x % 3329) 3329 = (y + x % 3329) % 3329 := tmod_pos _ _ a7
  simp only [spec_PolyMul.l1]
  rw [if_pos z1, if_pos z2, if_pos z3, if_pos z4, if_pos z5, w1, if_neg z6, if_pos z7, if_pos z8, hx, wx, tmod_pos x _ h0, rd_getD v, hy, w6, w7, w2, Int.toNat_natCast]
theorem impl_lo (K : Nat) (a b u : List Int) (i k : Nat) (x y : Int) (hx : rd a (i : Int) * rd b (k : Int) = x) (h0 : 0 ≤ x) (h1 : x ≤ 11075584) (hy : u.getD (i + k) 0 = y) (y0 : -1200000000000 ≤ y) (y1 : y ≤ 1200000000000) (hik : i + k < 256) (la : a.length = 256) (lb : b.length = 256) (lu : u.length = 256) :
    impl_PolyMul.l1 (K + 1) b u i (rd a i) a 256 i b 256 k = impl_PolyMul.l1 K b (u.set (i + k) (y + x)) i (rd a i) a 256 i b 256 ((k + 1 : Nat) : Int) := by
  have z1 : (k : Int) < 256 := by omega
  have z2 : 0 ≤ (k : Int) := by omega
  have z3 : (k : Int) < (b.length : Int) := by omega
  have z4 : ((i + k : Nat) : Int) < 256 := by omega
  have z5 : 0 ≤ ((i + k : Nat) : Int) := by omega
  have z6 : ((i + k : Nat) : Int) < (u.length : Int) := by omega
  have e1 : (i : Int) + (k : Int) = ((i + k : Nat) : Int) := by omega
  have e2 : (k : Int) + 1 = ((k + 1 : Nat) : Int) := by omega
  have b1 : i + k ≤ 9223372036854775807 := by omega
  have b2 : k + 1 ≤ 9223372036854775807 := by omega
  have a6 : -9223372036854775808 ≤ y + x := by omega
  have c6 : y + x ≤ 9223372036854775807 := by omega
  have ax : -9223372036854775808 ≤ x := by omega
  have cx : x ≤ 9223372036854775807 := by omega
  have wx : wrap64 x = x := wr x ax cx
  have w1 : wrap64 ((i : Int) + (k : Int)) = ((i + k : Nat) : Int) := wrn _ e1 b1
  have w2 : wrap64 ((k : Int) + 1) = ((k + 1 : Nat) : Int) := wrn _ e2 b2
  have w6 : wrap64 (y + x) = y + x := wr _ a6 c6
  simp only [impl_PolyMul.l1]
  rw [if_pos z1, if_pos z2, if_pos z3, w1, if_pos z4, if_pos z5, if_pos z6, hx, wx, rd_getD u, hy, w6, w2, Int.toNat_natCast]
theorem spec_hi (K : Nat) (a b v : List Int) (i k : Nat) (x y : Int) (hx : rd a (i : Int) * rd b (k : Int) = x) (h0 : 0 ≤ x) (h1 : x ≤ 11075584) (hy : v.getD (i + k - 256) 0 = y) (y0 : 0 ≤ y) (y1 : y < 3329) (hi : i < 256) (hk : k < 256) (hik : 256 ≤ i + k) (la : a.length = 256) (lb : b.length = 256) (lv : v.length = 256) :
    spec_PolyMul.l1 (K + 1) a b v i k = spec_PolyMul.l1 K a b (v.set (i + k - 256) ((y + (3329 - x % 3329)) % 3329)) i ((k + 1 : Nat) : Int) := by
  have z1 : (k : Int) < 256 := by omega
  have z2 : 0 ≤ (i : Int) := by omega
  have z3 : (i : Int) < (a.length : Int) := by omega
  have z4 : 0 ≤ (k : Int) := by omega
  have z5 : (k : Int) < (b.length : Int) := by omega
  have z6 : ((i + k : Nat) : Int) ≥ 256 := by omega
  have z7 : 0 ≤ ((i + k - 256 : Nat) : Int) := by omega
  have z8 : ((i + k - 256 : Nat) : Int) < (v.length : Int) := by omega
  have e1 : (i : Int) + (k : Int) = ((i + k : Nat) : Int) := by omega
  have e2 : (k : Int) + 1 = ((k + 1 : Nat) : Int) := by omega
  have b1 : i + k ≤ 9223372036854775807 := by omega
  have b2 : k + 1 ≤ 9223372036854775807 := by omega
  have e4 : ((i + k : Nat) : Int) - 256 = ((i + k - 256 : Nat) : Int) := by omega
  have b4 : i + k - 256 ≤ 9223372036854775807 := by omega
  have a6 : -9223372036854775808 ≤ y + (3329 - x % 3329) := by omega
  have c6 : y + (3329 - x % 3329) ≤ 9223372036854775807 := by omega
  have a5 : -9223372036854775808 ≤ 3329 - x % 3329 := by omega
  have c5 : 3329 - x % 3329 ≤ 9223372036854775807 := by omega
  have a7 : 0 ≤ y + (3329 - x % 3329) := by omega
  have ax : -9223372036854775808 ≤ x := by omega
  have cx : x ≤ 9223372036854775807 := by omega
  have wx : wrap64 x = x := wr x ax cx
  have w1 : wrap64 ((i : Int) + (k : Int)) = ((i + k : Nat) : Int) := wrn _ e1 b1
  have w2 : wrap64 ((k : Int) + 1) = ((k + 1 : Nat) : Int) := wrn _ e2 b2
  have w4 : wrap64 (((i + k : Nat) : Int) - 256) = ((i + k - 256 : Nat) : Int) := wrn _ e4 b4
  have w5 : wrap64 (3329 - x % 3329) = 3329 - x % 3329 := wr _ a5 c5
  have w6 : wrap64 (y + (3329 - x % 3329)) = y + (3329 - x % 3329) := wr _ a6 c6
  have w7 : Int.tmod (y + (3329 - x % 3329)) 3329 = (y + (3329 - x % 3329)) % 3329 := tmod_pos _ _ a7
  simp only [spec_PolyMul.l1]
  rw [if_pos z1, if_pos z2, if_pos z3, if_pos z4, if_pos z5, w1, if_pos z6, w4, if_pos z7, if_pos z8, hx, wx, tmod_pos x _ h0, w5, rd_getD v, hy, w6, w7, w2, Int.toNat_natCast]
theorem impl_hi (K : Nat) (a b u : List Int) (i k : Nat) (x y : Int) (hx : rd a (i : Int) * rd b (k : Int) = x) (h0 : 0 ≤ x) (h1 : x ≤ 11075584) (hy : u.getD (i + k - 256) 0 = y) (y0 : -1200000000000 ≤ y) (y1 : y ≤ 1200000000000) (hi : i < 256) (hk : k < 256) (hik : 256 ≤ i + k) (la : a.length = 256) (lb : b.length = 256) (lu : u.length = 256) :
    impl_PolyMul.l1 (K + 1) b u i (rd a i) a 256 i b 256 k = impl_PolyMul.l1 K b (u.set (i + k - 256) (y - x)) i (rd a i) a 256 i b 256 ((k + 1 : Nat) : Int) := by
  have z1 : (k : Int) < 256 := by omega
  have z2 : 0 ≤ (k : Int) := by omega
  have z3 : (k : Int) < (b.length : Int) := by omega
  have z4 : ¬ ((i + k : Nat) : Int) < 256 := by omega
  have z5 : 0 ≤ ((i + k - 256 : Nat) : Int) := by omega
  have z6 : ((i + k - 256 : Nat) : Int) < (u.length : Int) := by omega
  have e1 : (i : Int) + (k : Int) = ((i + k : Nat) : Int) := by omega
  have e2 : (k : Int) + 1 = ((k + 1 : Nat) : Int) := by omega
  have b1 : i + k ≤ 9223372036854775807 := by omega
  have b2 : k + 1 ≤ 9223372036854775807 := by omega
  have e4 : ((i + k : Nat) : Int) - 256 = ((i + k - 256 : Nat) : Int) := by omega
  have b4 : i + k - 256 ≤ 9223372036854775807 := by omega
  have a6 : -9223372036854775808 ≤ y - x := by omega
  have c6 : y - x ≤ 9223372036854775807 := by omega
  have ax : -9223372036854775808 ≤ x := by omega
  have cx : x ≤ 9223372036854775807 := by omega
  have wx : wrap64 x = x := wr x ax cx
  have w1 : wrap64 ((i : Int) + (k : Int)) = ((i + k : Nat) : Int) := wrn _ e1 b1
  have w2 : wrap64 ((k : Int) + 1) = ((k + 1 : Nat) : Int) := wrn _ e2 b2
  have w4 : wrap64 (((i + k : Nat) : Int) - 256) = ((i + k - 256 : Nat) : Int) := wrn _ e4 b4
  have w6 : wrap64 (y - x) = y - x := wr _ a6 c6
  simp only [impl_PolyMul.l1]
  rw [if_pos z1, if_pos z2, if_pos z3, w1, if_neg z4, w4, if_pos z5, if_pos z6, hx, wx, rd_getD u, hy, w6, w2, Int.toNat_natCast]
theorem mul_range (a b : List Int) (ha : rightP a = true) (hb : rightP b = true) (i k : Nat) (hi : i < 256) (hk : k < 256) : 0 ≤ rd a (i : Int) * rd b (k : Int) ∧ rd a (i : Int) * rd b (k : Int) ≤ 11075584 := by
  have ha' := of_decide_eq_true ha
  have hb' := of_decide_eq_true hb
  have ra := ha'.2 _ (show a[i]'(by omega) ∈ a from List.getElem_mem _)
  have rb := hb'.2 _ (show b[k]'(by omega) ∈ b from List.getElem_mem _)
  rw [rd_nat a i (by omega), rd_nat b k (by omega)]
  exact mul_bound _ _ ra.1 ra.2 rb.1 rb.2
theorem add_inv (n : Nat) (B y x : Int) (hB : B = (n : Int) * 12000000) (h0 : -B ≤ y) (h1 : y ≤ B) (x0 : 0 ≤ x) (x1 : x ≤ 11075584) : B ≤ ((n + 1 : Nat) : Int) * 12000000 ∧ -(((n + 1 : Nat) : Int) * 12000000) ≤ y + x ∧ y + x ≤ ((n + 1 : Nat) : Int) * 12000000 ∧ -(((n + 1 : Nat) : Int) * 12000000) ≤ y - x ∧ y - x ≤ ((n + 1 : Nat) : Int) * 12000000 := by omega
theorem lo_mod (v y x : Int) (h : v = y % 3329) : 0 ≤ (v + x % 3329) % 3329 ∧ (v + x % 3329) % 3329 < 3329 ∧ (v + x % 3329) % 3329 = (y + x) % 3329 := by omega
theorem hi_mod (v y x : Int) (h : v = y % 3329) : 0 ≤ (v + (3329 - x % 3329)) % 3329 ∧ (v + (3329 - x % 3329)) % 3329 < 3329 ∧ (v + (3329 - x % 3329)) % 3329 = (y - x) % 3329 := by omega
theorem mul_inner (a b : List Int) (ha : rightP a = true) (hb : rightP b = true) (i : Nat) (hi : i < 256) : ∀ (d k : Nat) (u v : List Int) (n : Nat), k + d = 256 → inv2 ((n : Int) * 12000000) u v → n + d ≤ 100000 →
    ∃ u' v', inv2 (((n + d : Nat) : Int) * 12000000) u' v' ∧ (∀ K, spec_PolyMul.l1 (K + d + 1) a b v i k = spec_PolyMul.l0 K a b v' ((i + 1 : Nat) : Int)) ∧ (∀ K, impl_PolyMul.l1 (K + d + 1) b u i (rd a i) a 256 i b 256 k = impl_PolyMul.l0 K b u' a 256 ((i + 1 : Nat) : Int)) := by
  have la : a.length = 256 := (of_decide_eq_true ha).1
  have lb : b.length = 256 := (of_decide_eq_true hb).1
  intro d
  induction d with
  | zero =>
    intro k u v n hk h hn
    refine ⟨u, v, h, fun K => ?_, fun K => ?_⟩
    · simp only [spec_PolyMul.l1]
      rw [if_neg (show ¬ (k : Int) < 256 by omega), wr _ (by omega) (by omega)]
      rfl
    · simp only [impl_PolyMul.l1]
      rw [if_neg (show ¬ (k : Int) < 256 by omega), wr _ (by omega) (by omega)]
      rfl
  | succ d ih =>
    intro k u v n hk h hn
    have k256 : k < 256 := by omega
    have kd : k + 1 + d = 256 := by omega
    have nd : n + 1 + d ≤ 100000 := by omega
    have ne : n + (d + 1) = n + 1 + d := by omega
    have nb : ((n : Int) * 12000000) ≤ 1200000000000 := by omega
    obtain ⟨m0, m1⟩ := mul_range a b ha hb i k hi k256
    generalize hx : rd a (i : Int) * rd b (k : Int) = x at m0 m1
    by_cases c : i + k < 256
    · obtain ⟨v0, v1, ve, u0, u1⟩ := h.2.2 (i + k) c
      obtain ⟨g1, g2, g3, g4, g5⟩ := add_inv n _ _ x rfl u0 u1 m0 m1
      obtain ⟨l1, l2, l3⟩ := lo_mod _ _ x ve
      have nw := inv2_step _ u v h (i + k) c _ _ _ l1 l2 l3 g1 g2 g3
      obtain ⟨u', v', q1, q2, q3⟩ := ih (k + 1) _ _ (n + 1) kd nw nd
      have y0 : -1200000000000 ≤ u.getD (i + k) 0 := by clear nw q1 ih l3 ve hx; omega
      have y1 : u.getD (i + k) 0 ≤ 1200000000000 := by clear nw q1 ih l3 ve hx; omega
      refine ⟨u', v', by rw [ne]; exact q1, fun K => ?_, fun K => ?_⟩
      · rw [← q2 K]
        exact spec_lo (K + d + 1) a b v i k x _ hx m0 m1 rfl v0 v1 c la lb h.2.1
      · rw [← q3 K]
        exact impl_lo (K + d + 1) a b u i k x _ hx m0 m1 rfl y0 y1 c la lb h.1
    · have c2 : i + k - 256 < 256 := by omega
      have c3 : 256 ≤ i + k := by omega
      obtain ⟨v0, v1, ve, u0, u1⟩ := h.2.2 (i + k - 256) c2
      obtain ⟨g1, g2, g3, g4, g5⟩ := add_inv n _ _ x rfl u0 u1 m0 m1
      obtain ⟨l1, l2, l3⟩ := hi_mod _ _ x ve
      have nw := inv2_step _ u v h (i + k - 256) c2 _ _ _ l1 l2 l3 g1 g4 g5
      obtain ⟨u', v', q1, q2, q3⟩ := ih (k + 1) _ _ (n + 1) kd nw nd
      have y0 : -1200000000000 ≤ u.getD (i + k - 256) 0 := by clear nw q1 ih l3 ve hx; omega
      have y1 : u.getD (i + k - 256) 0 ≤ 1200000000000 := by clear nw q1 ih l3 ve hx; omega
      refine ⟨u', v', by rw [ne]; exact q1, fun K => ?_, fun K => ?_⟩
      · rw [← q2 K]
        exact spec_hi (K + d + 1) a b v i k x _ hx m0 m1 rfl v0 v1 hi k256 c3 la lb h.2.1
      · rw [← q3 K]
        exact impl_hi (K + d + 1) a b u i k x _ hx m0 m1 rfl y0 y1 hi k256 c3 la lb h.1
theorem mul_outer (a b : List Int) (ha : rightP a = true) (hb : rightP b = true) : ∀ (d i : Nat) (u v : List Int), i + d = 256 → inv2 (((i * 256 : Nat) : Int) * 12000000) u v →
    ∃ u' v', inv2 1200000000000 u' v' ∧ (∀ K, spec_PolyMul.l0 (K + 258 * d + 1) a b v i = some v') ∧ (∀ K, impl_PolyMul.l0 (K + 258 * d + 1) b u a 256 i = impl_PolyMul.l2 K u' 256 0) := by
  have ha' := of_decide_eq_true ha
  have hb' := of_decide_eq_true hb
  intro d
  induction d with
  | zero =>
    intro i u v hi h
    obtain rfl : i = 256 := by omega
    obtain ⟨hu, hv, hall⟩ := h
    refine ⟨u, v, ⟨hu, hv, fun t ht => ?_⟩, fun K => ?_, fun K => ?_⟩
    · obtain ⟨v0, v1, ve, u0, u1⟩ := hall t ht
      exact ⟨v0, v1, ve, Int.le_trans (by decide) u0, Int.le_trans u1 (by decide)⟩
    · simp only [spec_PolyMul.l0]
      rw [if_neg (show ¬ ((256 : Nat) : Int) < 256 by decide)]
    · simp only [impl_PolyMul.l0]
      rw [if_neg (show ¬ ((256 : Nat) : Int) < 256 by decide), hu]
      rfl
  | succ d ih =>
    intro i u v hi h
    have i256 : i < 256 := by omega
    have ii : (i : Int) < 256 := by omega
    have i0 : 0 ≤ (i : Int) := by omega
    have ia : (i : Int) < (a.length : Int) := by omega
    have n1 : i * 256 + 256 ≤ 100000 := by omega
    have id1 : i + 1 + d = 256 := by omega
    have ie : (i + 1) * 256 = i * 256 + 256 := by omega
    obtain ⟨u1, v1, q1, q2, q3⟩ := mul_inner a b ha hb i i256 256 0 u v (i * 256) rfl h n1
    obtain ⟨u2, v2, p1, p2, p3⟩ := ih (i + 1) u1 v1 id1 (by rw [ie]; exact q1)
    refine ⟨u2, v2, p1, fun K => ?_, fun K => ?_⟩
    · have fk : K + 258 * (d + 1) + 1 = ((K + 258 * d + 1) + 256 + 1) + 1 := by omega
      rw [← p2 K, fk, spec_PolyMul.l0, if_pos ii]
      exact q2 (K + 258 * d + 1)
    · have fk : K + 258 * (d + 1) + 1 = ((K + 258 * d + 1) + 256 + 1) + 1 := by omega
      rw [← p3 K, fk, impl_PolyMul.l0, if_pos ii, if_pos i0, if_pos ia, hb'.1]
      exact q3 (K + 258 * d + 1)
theorem modQ_f (x : Int) (h0 : -1200000000000 ≤ x) (h1 : x ≤ 1200000000000) : impl_modQ.f x = some (x % 3329) := by
  unfold impl_modQ.f
  have t0 := Int.tmod_lt_of_pos x (show (0 : Int) < 3329 by decide)
  have t1 := Int.lt_tmod_of_pos x (show (0 : Int) < 3329 by decide)
  have t2 := Int.tmod_add_mul_tdiv x 3329
  rw [wr _ (by omega) (by omega), tmod_pos _ _ (by omega)]
  congr 1
  omega
theorem mul_last : ∀ (d t K : Nat) (u v : List Int), t + d = 256 → inv2 1200000000000 u v → d < K → impl_PolyMul.l2 K (v.take t ++ u.drop t) 256 t = some v := by
  intro d
  induction d with
  | zero =>
    intro t K u v ht h hK
    obtain ⟨hu, hv, hall⟩ := h
    obtain ⟨K, rfl⟩ := succ_of hK
    simp only [impl_PolyMul.l2]
    rw [if_neg (show ¬ (t : Int) < 256 by omega), List.take_of_length_le (by omega), List.drop_eq_nil_of_le (by omega), List.append_nil]
  | succ d ih =>
    intro t K u v ht h hK
    have h' := h
    obtain ⟨hu, hv, hall⟩ := h
    obtain ⟨K, rfl⟩ := succ_of hK
    obtain ⟨v0, v1, ve, u0, u1⟩ := hall t (by omega)
    have e1 : rd (v.take t ++ u.drop t) (t : Int) = u.getD t 0 := by
      rw [rd_getD, List.getD_eq_getElem?_getD, List.getElem?_append_right (by simp; omega), List.length_take, show min t v.length = t by omega, Nat.sub_self, List.getElem?_drop, Nat.add_zero, ← List.getD_eq_getElem?_getD]
    have e2 : (v.take t ++ u.drop t).set t (v.getD t 0) = v.take (t + 1) ++ u.drop (t + 1) := by
      rw [List.drop_eq_getElem_cons (show t < u.length by omega), List.set_append_right _ _ (by simp; omega), List.length_take, show t - min t v.length = 0 by omega, List.set_cons_zero, List.take_succ_eq_append_getElem (show t < v.length by omega), List.getD_eq_getElem?_getD, List.getElem?_eq_getElem (show t < v.length by omega), List.append_assoc]
      rfl
    simp only [impl_PolyMul.l2]
    rw [if_pos (show (t : Int) < 256 by omega), if_pos (show 0 ≤ (t : Int) by omega), if_pos (show (t : Int) < (((v.take t ++ u.drop t).length : Nat) : Int) by simp; omega), e1, modQ_f _ u0 u1, Option.bind_some, ← ve, Int.toNat_natCast, e2, wr _ (by omega) (by omega)]
    exact ih (t + 1) K u v (by omega) h' (by omega)
theorem PolyMul_both (a b : List Int) (hl : a.length < 1000000000) (hl2 : b.length < 1000000000) : ∃ r : List Int, r.length ≤ 256 ∧ ∀ K, 1000100000 ≤ K → spec_PolyMul.f K a b = some r ∧ impl_PolyMul.f K a b = some r := by
  by_cases ha : rightP a = true
  · by_cases hb : rightP b = true
    · have z : inv2 (((0 * 256 : Nat) : Int) * 12000000) (List.replicate 256 0) (List.replicate 256 0) := by
        refine ⟨List.length_replicate, List.length_replicate, fun t ht => ?_⟩
        have : (List.replicate 256 (0 : Int)).getD t 0 = 0 := by rw [List.getD_eq_getElem?_getD, List.getElem?_replicate]; simp [ht]
        rw [this]
        decide
      obtain ⟨u, v, p1, p2, p3⟩ := mul_outer a b ha hb 256 0 _ _ (by omega) z
      refine ⟨v, by rw [p1.2.1]; exact Nat.le_refl _, fun K hK => ?_⟩
      obtain ⟨K, rfl⟩ : ∃ m, K = m + 258 * 256 + 1 + 1 := ⟨K - 258 * 256 - 2, by omega⟩
      have ha' := of_decide_eq_true ha
      constructor
      · unfold spec_PolyMul.f
        rw [spec_PolyOk_f a _ hl (by omega), Option.bind_some, if_pos ha, spec_PolyOk_f b _ hl2 (by omega), Option.bind_some, hb]
        rw [spec_PolyMul.j0, if_neg (by simp), if_pos (by decide)]
        exact p2 K
      · unfold impl_PolyMul.f
        rw [impl_PolyOk_f a _ hl (by omega), Option.bind_some, if_pos ha, impl_PolyOk_f b _ hl2 (by omega), Option.bind_some, hb]
        rw [impl_PolyMul.j0, if_neg (by simp), if_pos (by decide), ha'.1]
        have := p3 K
        have l := mul_last 256 0 K u v (by omega) p1 (by omega)
        rw [show ((256 : Nat) : Int) = 256 from rfl]
        rw [show ((0 : Nat) : Int) = 0 from rfl] at this l
        rw [this]
        simpa using l
    · refine ⟨[], by simp, fun K hK => ?_⟩
      obtain ⟨K, rfl⟩ : ∃ m, K = m + 1 := ⟨K - 1, by omega⟩
      have hb : rightP b = false := by simpa using hb
      constructor
      · unfold spec_PolyMul.f
        rw [spec_PolyOk_f a _ hl (by omega), Option.bind_some, if_pos ha, spec_PolyOk_f b _ hl2 (by omega), Option.bind_some, hb, spec_PolyMul.j0, if_pos (by simp)]
      · unfold impl_PolyMul.f
        rw [impl_PolyOk_f a _ hl (by omega), Option.bind_some, if_pos ha, impl_PolyOk_f b _ hl2 (by omega), Option.bind_some, hb, impl_PolyMul.j0, if_pos (by simp)]
  · refine ⟨[], by simp, fun K hK => ?_⟩
    obtain ⟨K, rfl⟩ : ∃ m, K = m + 1 := ⟨K - 1, by omega⟩
    constructor
    · unfold spec_PolyMul.f
      rw [spec_PolyOk_f a _ hl (by omega), Option.bind_some, if_neg ha, spec_PolyMul.j0, if_pos rfl]
    · unfold impl_PolyMul.f
      rw [impl_PolyOk_f a _ hl (by omega), Option.bind_some, if_neg ha, impl_PolyMul.j0, if_pos rfl]

theorem FnExactPolyMul : laws_FnExactPolyMul.Pure := by
  intro a b _ _ _ _ _ _
  refine ⟨1000100010, ?_⟩
  unfold laws_FnExactPolyMul.f
  by_cases h : (a.length : Int) > 1048576
  · rw [if_pos h]
  · by_cases h2 : (b.length : Int) > 1048576
    · rw [if_neg h, if_pos h2]
    · obtain ⟨r, hr, both⟩ := PolyMul_both a b (by omega) (by omega)
      have tia : ∀ K, 1048576 < K → laws_toIntS.f K a = some a := fun K hK => toInt_f a K (by omega) (by omega)
      have tib : ∀ K, 1048576 < K → laws_toIntS.f K b = some b := fun K hK => toInt_f b K (by omega) (by omega)
      have eqr : ∀ K, 1048576 < K → laws_eqIntS.f K r r = some true := fun K hK => eqI_f r K (by omega) (by omega)
      have mr : ∀ K, 1048576 < K → laws_markIntS.f K r 1 = some (((1 + r.length : Nat) : Int), mkI 1 r.length) := fun K hK => markI_f r K 1 (by omega) (by omega) (by omega)
      have he : ∀ K, 1048576 < K → laws_heldIntS.f K (mkI 1 r.length) 1 = some ((1 + r.length : Nat) : Int) := fun K hK => heldI_f r.length K (by omega) (by omega)
      have rn : ¬ ((1 + r.length : Nat) : Int) < 0 := by omega
      have b1 := both 1000100010 (by omega)
      have b2 := both 1000100009 (by omega)
      have am := markI_f a 1000100010 1 (by omega) (by omega) (by omega)
      have bm := markI_f b 1000100010 (1 + a.length) (by omega) (by omega) (by omega)
      have bn : ¬ ((1 + a.length + b.length : Nat) : Int) < 0 := by omega
      have j : laws_FnExactPolyMul.j0 1000100010 a b r r false = some true := by
        rw [laws_FnExactPolyMul.j0, if_neg (by simp), mr _ (by omega), Option.bind_some]
        dsimp only
        rw [he _ (by omega), Option.bind_some, if_neg rn, if_pos rfl, tia _ (by omega), Option.bind_some, tib _ (by omega), Option.bind_some, b2.2, Option.bind_some, eqr _ (by omega), Option.bind_some, if_pos rfl, Option.bind_some, if_neg rn, if_pos rfl]
      rw [if_neg h, if_neg h2, tia _ (by omega), Option.bind_some, tib _ (by omega), Option.bind_some, b1.1, Option.bind_some, Option.bind_some, Option.bind_some, b1.2, Option.bind_some, eqr _ (by omega), Option.bind_some, if_pos rfl, Option.bind_some, eqI_f a _ (by omega) (by omega), Option.bind_some, if_pos rfl, Option.bind_some, eqI_f b _ (by omega) (by omega), Option.bind_some, if_pos rfl]
      rw [show ((1 : Nat) : Int) = 1 from rfl] at am
      rw [am, Option.bind_some]
      dsimp only
      rw [bm, Option.bind_some]
      dsimp only
      rw [if_neg bn, Option.bind_some]
      exact j

end Go.Proofs.Ytnbggmmpmppnaaa.Pure
