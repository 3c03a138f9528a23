/- Of every list of ints the program's PolyOk and the reference's give the same flag, and the list stays. No condition but the form's own bound on a slice's size. -/
import Derived.Test.YtmlbbikmgnipmaaPFnExactPolyOkx1
set_option linter.unusedVariables false
set_option linter.unusedSimpArgs false
namespace Go.Proofs.Ytmlbbikmgnipmaa.Pure
open Go.RowKit Go.Proofs.Ytmlbbikmgnipmaa.PFnExactPolyOk Go.Proofs.YtmlbbikmgnipmaaW.PrintWords Go.Proofs.YtmlbbikmgnipmaaW.PrintLast Go.Proofs.YtmlbbikmgnipmaaW.PrintMore

-- snippet plain
/-! bytes as numbers -/
def bl (s : ByteArray) : List Int := s.data.toList.map fun b => (b.toNat : Int)
theorem bl_len (s : ByteArray) : (bl s).length = s.size := by unfold bl; rw [List.length_map, Array.length_toList]; rfl
theorem map_u8_inj : ∀ {a b : List UInt8}, a.map (fun b => (b.toNat : Int)) = b.map (fun b => (b.toNat : Int)) → a = b
  | [], [], _ => rfl
  | [], _ :: _, h => by simp at h
  | _ :: _, [], h => by simp at h
  | x :: a, y :: b, h => by
    simp only [List.map_cons, List.cons.injEq] at h
    have e : x = y := UInt8.toNat_inj.mp (by omega)
    rw [e, map_u8_inj h.2]
theorem bl_inj {s t : ByteArray} (h : bl s = bl t) : s = t := by
  have := map_u8_inj h
  cases s; cases t
  simp only [ByteArray.mk.injEq] at *
  exact Array.toList_inj.mp this
theorem bl_eq {s t : ByteArray} : s = t ↔ bl s = bl t := ⟨fun h => by rw [h], bl_inj⟩
theorem toList_bl {s t : ByteArray} : s.toList = t.toList ↔ bl s = bl t := by
  rw [ByteArray.toList_eq, ByteArray.toList_eq]
  exact ⟨fun h => by unfold bl; rw [h], fun h => by rw [bl_inj h]⟩
theorem bl_range (s : ByteArray) : ∀ x ∈ bl s, 0 ≤ x ∧ x < 256 := by
  intro x hx
  simp only [bl, List.mem_map] at hx
  obtain ⟨b, _, rfl⟩ := hx
  have := b.toNat_lt
  omega
theorem bt_bl (s : ByteArray) (i : Int) : bt s i = (bl s).getD i.toNat 0 := by
  unfold bt bl
  split
  · rename_i h
    have h' : i.toNat < s.data.toList.length := by rw [Array.length_toList]; exact h
    rw [List.getD_eq_getElem?_getD, List.getElem?_map, List.getElem?_eq_getElem h']
    rfl
  · rename_i h
    have h' : s.data.toList.length ≤ i.toNat := by rw [Array.length_toList]; exact Nat.le_of_not_lt h
    rw [List.getD_eq_getElem?_getD, List.getElem?_map, List.getElem?_eq_none h']
    rfl
theorem bl_append (s t : ByteArray) : bl (s ++ t) = bl s ++ bl t := by simp [bl]
theorem bl_extract (s : ByteArray) (a b : Nat) : bl (s.extract a b) = ((bl s).drop a).take (b - a) := by
  simp [bl, List.map_take, List.map_drop]
theorem u8_ofNat (n : Int) (h : 0 ≤ n ∧ n < 256) : ((UInt8.ofNat n.toNat).toNat : Int) = n := by
  rw [UInt8.toNat_ofNat']
  omega
theorem bl_str (xs : List Int) (h : ∀ x ∈ xs, 0 ≤ x ∧ x < 256) : bl (strOfNums xs) = xs := by
  unfold bl
  rw [strOfNums_data, List.map_map]
  conv => rhs; rw [← List.map_id xs]
  exact List.map_congr_left fun x hx => u8_ofNat x (h x hx)
theorem str_bl (s : ByteArray) : strOfNums (bl s) = s := bl_inj (bl_str _ (bl_range s))
theorem str_size (xs : List Int) : (strOfNums xs).size = xs.length := strOfNums_size xs
theorem bl_nil : bl (⟨#[]⟩ : ByteArray) = [] := rfl
theorem bt_lo (s : ByteArray) (i : Int) : 0 ≤ bt s i := (bt_range s i).1
theorem bt_hi (s : ByteArray) (i : Int) : bt s i < 256 := by have := (bt_range s i).2; omega
theorem wr (n : Int) (h : -9223372036854775808 ≤ n) (h' : n ≤ 9223372036854775807) : wrap64 n = n := by unfold wrap64; omega
theorem tdiv_pos (a b : Int) (h : 0 ≤ a) : Int.tdiv a b = a / b := Int.tdiv_eq_ediv_of_nonneg h
theorem tmod_pos (a b : Int) (h : 0 ≤ a) : Int.tmod a b = a % b := Int.tmod_eq_emod_of_nonneg h
theorem succ_of {k d : Nat} (h : d < k) : ∃ m, k = m + 1 := ⟨k - 1, by omega⟩
theorem drop_bt (s : ByteArray) (i : Nat) (h : i < s.size) : (bl s).drop i = bt s i :: (bl s).drop (i + 1) := by
  have h' : i < (bl s).length := by rw [bl_len]; exact h
  rw [List.drop_eq_getElem_cons h', bt_bl, Int.toNat_natCast, List.getD_eq_getElem?_getD, List.getElem?_eq_getElem h']
  rfl
theorem drop_end (s : ByteArray) (i : Nat) (h : s.size ≤ i) : (bl s).drop i = [] := List.drop_eq_nil_of_le (by rw [bl_len]; exact h)
theorem take_snoc_cons {α : Type} (p : List α) (b : α) (l : List α) : (p ++ b :: l).take (p.length + 1) = p ++ [b] := by
  rw [List.take_length_add_append]; simp
attribute [local irreducible] bt

-- snippet intlist
/-! lists of numbers: taken over, compared -/
theorem toInt_l0 (x : List Int) (h : x.length < 1000000000) : ∀ (d K j : Nat) (y : List Int), j + d = x.length → d < K → y.length = x.length → laws_toIntS.l0 K x y j = some (y.take j ++ (x.drop j)) := by
  intro d
  induction d with
  | zero =>
    intro K j y hj hK hy
    obtain ⟨K, rfl⟩ := succ_of hK
    simp only [laws_toIntS.l0]
    rw [if_neg (show ¬ (j : Int) < (x.length : Int) by omega), List.take_of_length_le (by omega), List.drop_eq_nil_of_le (by omega)]
    simp
  | succ d ih =>
    intro K j y hj hK hy
    obtain ⟨K, rfl⟩ := succ_of hK
    have hjx : j < x.length := by omega
    simp only [laws_toIntS.l0]
    rw [if_pos (show (j : Int) < (x.length : Int) by omega), if_pos (show 0 ≤ (j : Int) by omega), if_pos (show (j : Int) < (y.length : Int) by omega), wr ((j : Int) + 1) (by omega) (by omega), show ((j : Int) + 1) = ((j + 1 : Nat) : Int) by omega, Int.toNat_natCast, ih K (j + 1) _ (by omega) (by omega) (by simp; omega)]
    have e : rd x (j : Int) = x[j] := by unfold rd; rw [Int.toNat_natCast, List.getD_eq_getElem?_getD, List.getElem?_eq_getElem hjx]; rfl
    have t : (y.set j (rd x (j : Int))).take (j + 1) = y.take j ++ [x[j]] := by
      rw [List.take_set, List.take_succ_eq_append_getElem (show j < y.length by omega), List.set_append_right _ _ (by simp; omega), e]
      simp [show min j y.length = j by omega]
    rw [t, List.append_assoc, List.drop_eq_getElem_cons hjx]
    rfl
theorem toInt_f (x : List Int) (K : Nat) (h : x.length < 1000000000) (hK : x.length < K) : laws_toIntS.f K x = some x := by
  have := toInt_l0 x h x.length K 0 (List.replicate x.length 0) (by omega) hK (by simp)
  unfold laws_toIntS.f
  rw [if_pos (show 0 ≤ (x.length : Int) by omega), if_pos (by simp; omega)]
  simpa using this
theorem eqI_l0 (l : List Int) (h : l.length < 1000000000) : ∀ (d K i : Nat), i + d = l.length → d < K → laws_eqIntS.l0 K l l i = some true := by
  intro d
  induction d with
  | zero =>
    intro K i hi hK
    obtain ⟨K, rfl⟩ := succ_of hK
    simp only [laws_eqIntS.l0]
    rw [if_neg (by omega)]
  | succ d ih =>
    intro K i hi hK
    obtain ⟨K, rfl⟩ := succ_of hK
    simp only [laws_eqIntS.l0]
    rw [if_pos (by omega), if_pos (by omega), if_pos (by omega), if_true, wr _ (by omega) (by omega), show ((i : Int) + 1) = ((i + 1 : Nat) : Int) by omega]
    exact ih K (i + 1) (by omega) (by omega)
theorem eqI_f (l : List Int) (K : Nat) (h : l.length < 1000000000) (hK : l.length < K) : laws_eqIntS.f K l l = some true := by
  have := eqI_l0 l h l.length K 0 (by omega) hK
  unfold laws_eqIntS.f
  rw [if_pos rfl]
  simpa using this

-- snippet polyok_impl
/-! right polynomials -/
def rightP (p : List Int) : Bool := decide (p.length = 256 ∧ ∀ x ∈ p, 0 ≤ x ∧ x ≤ 3328)
theorem rd_nat (l : List Int) (j : Nat) (h : j < l.length) : rd l (j : Int) = l[j] := by unfold rd; rw [Int.toNat_natCast, List.getD_eq_getElem?_getD, List.getElem?_eq_getElem h]; rfl
theorem all_drop (p : List Int) (j : Nat) (h : j < p.length) (P : Int → Prop) : (∀ x ∈ p.drop j, P x) ↔ P p[j] ∧ ∀ x ∈ p.drop (j + 1), P x := by
  rw [List.drop_eq_getElem_cons h]; exact List.forall_mem_cons
theorem impl_in_f (a b c : Int) : impl_in.f a b c = some (decide (b ≤ a ∧ a ≤ c)) := by
  unfold impl_in.f
  by_cases h : b ≤ a
  · rw [if_pos h]; simp [h]
  · rw [if_neg h]; simp [h]
theorem impl_pok_l0 (p : List Int) (h : p.length < 1000000000) : ∀ (d K j : Nat), j + d = p.length → d < K → impl_PolyOk.l0 K p p (p.length : Int) j = some (decide (p.length = 256 ∧ ∀ x ∈ p.drop j, 0 ≤ x ∧ x ≤ 3328)) := by
  intro d
  induction d with
  | zero =>
    intro K j hj hK
    obtain ⟨K, rfl⟩ := succ_of hK
    simp only [impl_PolyOk.l0]
    rw [if_neg (show ¬ (j : Int) < (p.length : Int) by omega), List.drop_eq_nil_of_le (by omega)]
    congr 1
    rw [Bool.eq_iff_iff]
    simp
    omega
  | succ d ih =>
    intro K j hj hK
    obtain ⟨K, rfl⟩ := succ_of hK
    have hjp : j < p.length := by omega
    simp only [impl_PolyOk.l0]
    rw [if_pos (show (j : Int) < (p.length : Int) by omega), if_pos (show 0 ≤ (j : Int) by omega), if_pos (show (j : Int) < (p.length : Int) by omega), impl_in_f, Option.bind_some, rd_nat p j hjp]
    by_cases c : 0 ≤ p[j] ∧ p[j] ≤ 3328
    · rw [if_pos (by simpa using c), wr ((j : Int) + 1) (by omega) (by omega), show ((j : Int) + 1) = ((j + 1 : Nat) : Int) by omega, ih K (j + 1) (by omega) (by omega)]
      congr 1
      rw [decide_eq_decide, all_drop p j hjp]
      exact ⟨fun q => ⟨q.1, c, q.2⟩, fun q => ⟨q.1, q.2.2⟩⟩
    · rw [if_neg (by simpa using c)]
      congr 1
      symm
      rw [decide_eq_false_iff_not, all_drop p j hjp]
      intro q
      exact c q.2.1
theorem impl_PolyOk_f (p : List Int) (K : Nat) (h : p.length < 1000000000) (hK : p.length < K) : impl_PolyOk.f K p = some (rightP p) := by
  have := impl_pok_l0 p h p.length K 0 (by omega) hK
  unfold impl_PolyOk.f
  simpa [rightP] using this

-- snippet polyok_spec
theorem spec_in_f (a b c : Int) : spec_l01In.f a b c = some (decide (b ≤ a ∧ a ≤ c)) := impl_in_f a b c
theorem spec_pok_l0 (p : List Int) (h : p.length < 1000000000) : ∀ (d K j : Nat), j + d = p.length → d < K → spec_PolyOk.l0 K p j = some (decide (∀ x ∈ p.drop j, 0 ≤ x ∧ x ≤ 3328)) := by
  intro d
  induction d with
  | zero =>
    intro K j hj hK
    obtain ⟨K, rfl⟩ := succ_of hK
    simp only [spec_PolyOk.l0]
    rw [if_neg (show ¬ (j : Int) < (p.length : Int) by omega), List.drop_eq_nil_of_le (by omega)]
    simp
  | succ d ih =>
    intro K j hj hK
    obtain ⟨K, rfl⟩ := succ_of hK
    have hjp : j < p.length := by omega
    simp only [spec_PolyOk.l0]
    rw [if_pos (show (j : Int) < (p.length : Int) by omega), if_pos (show 0 ≤ (j : Int) by omega), spec_in_f, Option.bind_some, rd_nat p j hjp]
    by_cases c : 0 ≤ p[j] ∧ p[j] ≤ 3328
    · rw [if_pos (by simpa using c), wr ((j : Int) + 1) (by omega) (by omega), show ((j : Int) + 1) = ((j + 1 : Nat) : Int) by omega, ih K (j + 1) (by omega) (by omega)]
      congr 1
      rw [decide_eq_decide, all_drop p j hjp]
      exact ⟨fun q => ⟨c, q⟩, fun q => q.2⟩
    · rw [if_neg (by simpa using c)]
      congr 1
      symm
      rw [decide_eq_false_iff_not, all_drop p j hjp]
      intro q
      exact c q.1
theorem spec_PolyOk_f (p : List Int) (K : Nat) (h : p.length < 1000000000) (hK : p.length < K) : spec_PolyOk.f K p = some (rightP p) := by
  have := spec_pok_l0 p h p.length K 0 (by omega) hK
  unfold spec_PolyOk.f
  by_cases c : p.length = 256
  · rw [if_pos (by omega)]
    simp only [List.drop_zero, Int.natCast_zero] at this
    rw [this]
    simp [rightP, c]
  · rw [if_neg (by omega)]
    simp [rightP, c]

theorem FnExactPolyOk : laws_FnExactPolyOk.Pure := by
  intro l hl _ _
  refine ⟨1100000, ?_⟩
  unfold laws_FnExactPolyOk.f
  by_cases h : (l.length : Int) > 1048576
  · rw [if_pos h]
  · rw [if_neg h, toInt_f l _ (by omega) (by omega), Option.bind_some, spec_PolyOk_f l _ (by omega) (by omega), Option.bind_some, Option.bind_some, impl_PolyOk_f l _ (by omega) (by omega), Option.bind_some, if_neg (by simp), Option.bind_some, eqI_f l _ (by omega) (by omega)]
    simp

end Go.Proofs.Ytmlbbikmgnipmaa.Pure
