/- Of every two ints the program's PowQ and the reference's give the same number. No condition. -/
import Derived.Test.YtmlbbikmgnipmabPFnExactPowQx1
set_option linter.unusedVariables false
set_option linter.unusedSimpArgs false
namespace Go.Proofs.Ytmlbbikmgnipmab.Pure
open Go.RowKit Go.Proofs.Ytmlbbikmgnipmab.PFnExactPowQ Go.Proofs.YtmlbbikmgnipmabW.PrintWords Go.Proofs.YtmlbbikmgnipmabW.PrintLast Go.Proofs.YtmlbbikmgnipmabW.PrintMore

-- snippet plain
/-! bytes as numbers -/
def bl (s : ByteArray) : List Int := s.data.toList.map fun b => (b.toNat : Int)
theorem bl_len (s : ByteArray) : (bl s).length = s.size := by unfold bl; rw [List.length_map, Array.length_toList]; rfl
theorem map_u8_inj : ∀ {a b : List UInt8}, a.map (fun b => (b.toNat : Int)) = b.map (fun b => (b.toNat : Int)) → a = b
  | [], [], _ => rfl
  | [], _ :: _, h => by simp at h
  | _ :: _, [], h => by simp at h
  | x :: a, y :: b, h => by
    simp only [List.map_cons, List.cons.injEq] at h
    have e : x = y := UInt8.toNat_inj.mp (by omega)
    rw [e, map_u8_inj h.2]
theorem bl_inj {s t : ByteArray} (h : bl s = bl t) : s = t := by
  have := map_u8_inj h
  cases s; cases t
  simp only [ByteArray.mk.injEq] at *
  exact Array.toList_inj.mp this
theorem bl_eq {s t : ByteArray} : s = t ↔ bl s = bl t := ⟨fun h => by rw [h], bl_inj⟩
theorem toList_bl {s t : ByteArray} : s.toList = t.toList ↔ bl s = bl t := by
  rw [ByteArray.toList_eq, ByteArray.toList_eq]
  exact ⟨fun h => by unfold bl; rw [h], fun h => by rw [bl_inj h]⟩
theorem bl_range (s : ByteArray) : ∀ x ∈ bl s, 0 ≤ x ∧ x < 256 := by
  intro x hx
  simp only [bl, List.mem_map] at hx
  obtain ⟨b, _, rfl⟩ := hx
  have := b.toNat_lt
  omega
theorem bt_bl (s : ByteArray) (i : Int) : bt s i = (bl s).getD i.toNat 0 := by
  unfold bt bl
  split
  · rename_i h
    have h' : i.toNat < s.data.toList.length := by rw [Array.length_toList]; exact h
    rw [List.getD_eq_getElem?_getD, List.getElem?_map, List.getElem?_eq_getElem h']
    rfl
  · rename_i h
    have h' : s.data.toList.length ≤ i.toNat := by rw [Array.length_toList]; exact Nat.le_of_not_lt h
    rw [List.getD_eq_getElem?_getD, List.getElem?_map, List.getElem?_eq_none h']
    rfl
theorem bl_append (s t : ByteArray) : bl (s ++ t) = bl s ++ bl t := by simp [bl]
theorem bl_extract (s : ByteArray) (a b : Nat) : bl (s.extract a b) = ((bl s).drop a).take (b - a) := by
  simp [bl, List.map_take, List.map_drop]
theorem u8_ofNat (n : Int) (h : 0 ≤ n ∧ n < 256) : ((UInt8.ofNat n.toNat).toNat : Int) = n := by
  rw [UInt8.toNat_ofNat']
  omega
theorem bl_str (xs : List Int) (h : ∀ x ∈ xs, 0 ≤ x ∧ x < 256) : bl (strOfNums xs) = xs := by
  unfold bl
  rw [strOfNums_data, List.map_map]
  conv => rhs; rw [← List.map_id xs]
  exact List.map_congr_left fun x hx => u8_ofNat x (h x hx)
theorem str_bl (s : ByteArray) : strOfNums (bl s) = s := bl_inj (bl_str _ (bl_range s))
theorem str_size (xs : List Int) : (strOfNums xs).size = xs.length := strOfNums_size xs
theorem bl_nil : bl (⟨#[]⟩ : ByteArray) = [] := rfl
theorem bt_lo (s : ByteArray) (i : Int) : 0 ≤ bt s i := (bt_range s i).1
theorem bt_hi (s : ByteArray) (i : Int) : bt s i < 256 := by have := (bt_range s i).2; omega
theorem wr (n : Int) (h : -9223372036854775808 ≤ n) (h' : n ≤ 9223372036854775807) : wrap64 n = n := by unfold wrap64; omega
theorem tdiv_pos (a b : Int) (h : 0 ≤ a) : Int.tdiv a b = a / b := Int.tdiv_eq_ediv_of_nonneg h
theorem tmod_pos (a b : Int) (h : 0 ≤ a) : Int.tmod a b = a % b := Int.tmod_eq_emod_of_nonneg h
theorem succ_of {k d : Nat} (h : d < k) : ∃ m, k = m + 1 := ⟨k - 1, by omega⟩
theorem drop_bt (s : ByteArray) (i : Nat) (h : i < s.size) : (bl s).drop i = bt s i :: (bl s).drop (i + 1) := by
  have h' : i < (bl s).length := by rw [bl_len]; exact h
  rw [List.drop_eq_getElem_cons h', bt_bl, Int.toNat_natCast, List.getD_eq_getElem?_getD, List.getElem?_eq_getElem h']
  rfl
theorem drop_end (s : ByteArray) (i : Nat) (h : s.size ≤ i) : (bl s).drop i = [] := List.drop_eq_nil_of_le (by rw [bl_len]; exact h)
theorem take_snoc_cons {α : Type} (p : List α) (b : α) (l : List α) : (p ++ b :: l).take (p.length + 1) = p ++ [b] := by
  rw [List.take_length_add_append]; simp

theorem l0_eq : ∀ (k : Nat) (x y z : Int), spec_PowQ.l0 k x y z = impl_PowQ.l0 k x y z
  | 0, _, _, _ => rfl
  | k + 1, x, y, z => by simp only [spec_PowQ.l0, impl_PowQ.l0, l0_eq k]
theorem l0_some : ∀ (d k : Nat) (x y z : Int), 0 ≤ y → y ≤ 1000000000 → y < d → d ≤ k → ∃ r, impl_PowQ.l0 k x y z = some r := by
  intro d
  induction d with
  | zero => intro k x y z h h0 h1; omega
  | succ d ih =>
    intro k x y z h h0 h1 hk
    obtain ⟨k, rfl⟩ := succ_of hk
    simp only [impl_PowQ.l0]
    have e : wrap64 (Int.tdiv y 2) = y / 2 := by rw [tdiv_pos _ _ h, wr _ (by omega) (by omega)]
    by_cases c : y > 0
    · rw [if_pos c, e]
      split
      · exact ih k _ _ _ (by omega) (by omega) (by omega) (by omega)
      · exact ih k _ _ _ (by omega) (by omega) (by omega) (by omega)
    · rw [if_neg c]; exact ⟨_, rfl⟩
theorem FnExactPowQ : laws_FnExactPowQ.Pure := by
  intro b e _ _
  refine ⟨1000000002, ?_⟩
  have hi : impl_in.f e 0 1000000000 = spec_l01In.f e 0 1000000000 := rfl
  unfold laws_FnExactPowQ.f spec_PowQ.f impl_PowQ.f impl_modQ.f
  rw [hi]
  by_cases h : 0 ≤ e ∧ e ≤ 1000000000
  · have g : spec_l01In.f e 0 1000000000 = some true := by unfold spec_l01In.f; rw [if_pos (by omega)]; simp [h.2]
    rw [g]
    simp only [Option.bind_some, if_true]
    have t0 := Int.tmod_lt_of_pos b (show (0 : Int) < 3329 by decide)
    have t1 := Int.lt_tmod_of_pos b (show (0 : Int) < 3329 by decide)
    generalize Int.tmod b 3329 = t at *
    have em : Int.tmod (wrap64 (t + 3329)) 3329 = if t < 0 then wrap64 (t + 3329) else t := by
      rw [wr _ (by omega) (by omega), tmod_pos _ _ (by omega)]
      split <;> omega
    rw [em]
    have j : ∀ x, spec_PowQ.j0 1000000002 x e = impl_PowQ.l0 1000000001 x e 1 := fun x => by rw [← l0_eq]; rfl
    obtain ⟨r, hr⟩ := l0_some 1000000001 1000000001 (if t < 0 then wrap64 (t + 3329) else t) e 1 h.1 h.2 (by omega) (Nat.le_refl _)
    have hr2 : impl_PowQ.l0 1000000002 (if t < 0 then wrap64 (t + 3329) else t) e 1 = some r := impl_PowQ.mono_l 1000000001 _ _ _ r hr
    rw [hr2]
    have hs : (if t < 0 then spec_PowQ.j0 1000000002 (wrap64 (t + 3329)) e else spec_PowQ.j0 1000000002 t e) = some r := by
      rw [← hr]
      split
      · rw [j]
      · rw [j]
    rw [hs]
    simp
  · have g : spec_l01In.f e 0 1000000000 = some false := by
      unfold spec_l01In.f
      split
      · simp; omega
      · rfl
    rw [g]
    simp

end Go.Proofs.Ytmlbbikmgnipmab.Pure
