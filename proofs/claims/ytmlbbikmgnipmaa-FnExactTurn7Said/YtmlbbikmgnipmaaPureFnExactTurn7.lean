/- Of every int the program's Turn7 and the reference's give the same number. No condition. -/
import Derived.Test.YtmlbbikmgnipmaaPFnExactTurn7x1
set_option linter.unusedVariables false
set_option linter.unusedSimpArgs false
namespace Go.Proofs.Ytmlbbikmgnipmaa.Pure
open Go.RowKit Go.Proofs.Ytmlbbikmgnipmaa.PFnExactTurn7 Go.Proofs.YtmlbbikmgnipmaaW.PrintWords Go.Proofs.YtmlbbikmgnipmaaW.PrintLast Go.Proofs.YtmlbbikmgnipmaaW.PrintMore

-- snippet plain
/-! bytes as numbers -/
def bl (s : ByteArray) : List Int := s.data.toList.map fun b => (b.toNat : Int)
theorem bl_len (s : ByteArray) : (bl s).length = s.size := by unfold bl; rw [List.length_map, Array.length_toList]; rfl
theorem map_u8_inj : ∀ {a b : List UInt8}, a.map (fun b => (b.toNat : Int)) = b.map (fun b => (b.toNat : Int)) → a = b
  | [], [], _ => rfl
  | [], _ :: _, h => by simp at h
  | _ :: _, [], h => by simp at h
  | x :: a, y :: b, h => by
    simp only [List.map_cons, List.cons.injEq] at h
    have e : x = y := UInt8.toNat_inj.mp (by omega)
    rw [e, map_u8_inj h.2]
theorem bl_inj {s t : ByteArray} (h : bl s = bl t) : s = t := by
  have := map_u8_inj h
  cases s; cases t
  simp only [ByteArray.mk.injEq] at *
  exact Array.toList_inj.mp this
theorem bl_eq {s t : ByteArray} : s = t ↔ bl s = bl t := ⟨fun h => by rw [h], bl_inj⟩
theorem toList_bl {s t : ByteArray} : s.toList = t.toList ↔ bl s = bl t := by
  rw [ByteArray.toList_eq, ByteArray.toList_eq]
  exact ⟨fun h => by unfold bl; rw [h], fun h => by rw [bl_inj h]⟩
theorem bl_range (s : ByteArray) : ∀ x ∈ bl s, 0 ≤ x ∧ x < 256 := by
  intro x hx
  simp only [bl, List.mem_map] at hx
  obtain ⟨b, _, rfl⟩ := hx
  have := b.toNat_lt
  omega
theorem bt_bl (s : ByteArray) (i : Int) : bt s i = (bl s).getD i.toNat 0 := by
  unfold bt bl
  split
  · rename_i h
    have h' : i.toNat < s.data.toList.length := by rw [Array.length_toList]; exact h
    rw [List.getD_eq_getElem?_getD, List.getElem?_map, List.getElem?_eq_getElem h']
    rfl
  · rename_i h
    have h' : s.data.toList.length ≤ i.toNat := by rw [Array.length_toList]; exact Nat.le_of_not_lt h
    rw [List.getD_eq_getElem?_getD, List.getElem?_map, List.getElem?_eq_none h']
    rfl
theorem bl_append (s t : ByteArray) : bl (s ++ t) = bl s ++ bl t := by simp [bl]
theorem bl_extract (s : ByteArray) (a b : Nat) : bl (s.extract a b) = ((bl s).drop a).take (b - a) := by
  simp [bl, List.map_take, List.map_drop]
theorem u8_ofNat (n : Int) (h : 0 ≤ n ∧ n < 256) : ((UInt8.ofNat n.toNat).toNat : Int) = n := by
  rw [UInt8.toNat_ofNat']
  omega
theorem bl_str (xs : List Int) (h : ∀ x ∈ xs, 0 ≤ x ∧ x < 256) : bl (strOfNums xs) = xs := by
  unfold bl
  rw [strOfNums_data, List.map_map]
  conv => rhs; rw [← List.map_id xs]
  exact List.map_congr_left fun x hx => u8_ofNat x (h x hx)
theorem str_bl (s : ByteArray) : strOfNums (bl s) = s := bl_inj (bl_str _ (bl_range s))
theorem str_size (xs : List Int) : (strOfNums xs).size = xs.length := strOfNums_size xs
theorem bl_nil : bl (⟨#[]⟩ : ByteArray) = [] := rfl
theorem bt_lo (s : ByteArray) (i : Int) : 0 ≤ bt s i := (bt_range s i).1
theorem bt_hi (s : ByteArray) (i : Int) : bt s i < 256 := by have := (bt_range s i).2; omega
theorem wr (n : Int) (h : -9223372036854775808 ≤ n) (h' : n ≤ 9223372036854775807) : wrap64 n = n := by unfold wrap64; omega
theorem tdiv_pos (a b : Int) (h : 0 ≤ a) : Int.tdiv a b = a / b := Int.tdiv_eq_ediv_of_nonneg h
theorem tmod_pos (a b : Int) (h : 0 ≤ a) : Int.tmod a b = a % b := Int.tmod_eq_emod_of_nonneg h
theorem succ_of {k d : Nat} (h : d < k) : ∃ m, k = m + 1 := ⟨k - 1, by omega⟩
theorem drop_bt (s : ByteArray) (i : Nat) (h : i < s.size) : (bl s).drop i = bt s i :: (bl s).drop (i + 1) := by
  have h' : i < (bl s).length := by rw [bl_len]; exact h
  rw [List.drop_eq_getElem_cons h', bt_bl, Int.toNat_natCast, List.getD_eq_getElem?_getD, List.getElem?_eq_getElem h']
  rfl
theorem drop_end (s : ByteArray) (i : Nat) (h : s.size ≤ i) : (bl s).drop i = [] := List.drop_eq_nil_of_le (by rw [bl_len]; exact h)
theorem take_snoc_cons {α : Type} (p : List α) (b : α) (l : List α) : (p ++ b :: l).take (p.length + 1) = p ++ [b] := by
  rw [List.take_length_add_append]; simp
attribute [local irreducible] bt

-- snippet turn7
/-! Turn7 -/
/-- seven bits turned around, of n modulo 128 -/
def t7 (n : Int) : Int := 64 * (n % 2) + 32 * (n / 2 % 2) + 16 * (n / 4 % 2) + 8 * (n / 8 % 2) + 4 * (n / 16 % 2) + 2 * (n / 32 % 2) + n / 64 % 2
theorem and1_i64 (x : Int) : Go.bits .and .i64 x 1 = x % 2 := by
  unfold Go.bits
  have h : ((BitVec.ofInt IntKind.i64.bits x &&& BitVec.ofInt IntKind.i64.bits 1).toNat : Int) = x % 2 := by
    rw [BitVec.toNat_and, show (BitVec.ofInt IntKind.i64.bits 1).toNat = 2 ^ 1 - 1 from by decide, Nat.and_two_pow_sub_one_eq_mod, BitVec.toNat_ofInt]
    have e : ((2 : Nat) ^ IntKind.i64.bits : Nat) = 18446744073709551616 := by decide
    rw [e]
    omega
  simp only [h, IntKind.wrap_i64]
  omega
theorem shr_val (x : Int) (j : Nat) (h : j < 7) : shr .i64 x (j : Int) = x / 2 ^ j := by
  unfold shr
  rw [Int.toNat_natCast]
  congr 2
  rw [show IntKind.i64.bits = 64 from rfl]
  omega
theorem impl_t7_step (K : Nat) (x y : Int) (j : Nat) (hj : j < 7) (h0 : 0 ≤ y) (h1 : y < 1000) : impl_Turn7.l0 (K + 1) x y j = impl_Turn7.l0 K x (2 * y + x / 2 ^ j % 2) ((j + 1 : Nat) : Int) := by
  simp only [impl_Turn7.l0]
  have r := Int.emod_nonneg (x / 2 ^ j) (show (2 : Int) ≠ 0 by decide)
  have r2 := Int.emod_lt_of_pos (x / 2 ^ j) (show (0 : Int) < 2 by decide)
  rw [if_pos (show (j : Int) < 7 by omega), if_pos (show 0 ≤ (j : Int) by omega), shr_val x j hj, and1_i64, wr (2 * y) (by omega) (by omega), wr _ (by omega) (by omega), wr ((j : Int) + 1) (by omega) (by omega)]
  rfl
theorem impl_Turn7_f (K : Nat) (n : Int) (hK : 8 ≤ K) : impl_Turn7.f K n = some (t7 n) := by
  obtain ⟨K, rfl⟩ : ∃ m, K = m + 8 := ⟨K - 8, by omega⟩
  unfold impl_Turn7.f
  have e := impl_t7_step (K + 7) n 0 0 (by decide) (by decide) (by decide)
  simp only [Int.natCast_zero, Nat.zero_add] at e
  have p0 : n / 2 ^ 0 = n := by simp
  rw [p0] at e
  rw [e, impl_t7_step (K + 6) n _ 1 (by decide) (by omega) (by omega), impl_t7_step (K + 5) n _ 2 (by decide) (by omega) (by omega), impl_t7_step (K + 4) n _ 3 (by decide) (by omega) (by omega), impl_t7_step (K + 3) n _ 4 (by decide) (by omega) (by omega), impl_t7_step (K + 2) n _ 5 (by decide) (by omega) (by omega), impl_t7_step (K + 1) n _ 6 (by decide) (by omega) (by omega)]
  simp only [impl_Turn7.l0]
  rw [if_neg (by decide)]
  unfold t7
  congr 1
  omega

-- snippet turn7_spec
theorem spec_t7_step (K : Nat) (x y j : Int) (hx : 0 ≤ x) (hx1 : x < 128) (hj0 : 0 ≤ j) (hj : j < 7) (h0 : 0 ≤ y) (h1 : y < 1000) : spec_Turn7.l0 (K + 1) x y j = spec_Turn7.l0 K (x / 2) (2 * y + x % 2) (j + 1) := by
  simp only [spec_Turn7.l0]
  rw [if_pos hj, tdiv_pos _ _ hx, tmod_pos _ _ hx, wr (x / 2) (by omega) (by omega), wr (2 * y) (by omega) (by omega), wr _ (by omega) (by omega), wr (j + 1) (by omega) (by omega)]
theorem spec_t7_all (K : Nat) (x : Int) (hx : 0 ≤ x) (hx1 : x < 128) : spec_Turn7.j0 (K + 9) x = some (t7 x) := by
  have e : spec_Turn7.j0 (K + 9) x = spec_Turn7.l0 (K + 8) x 0 0 := by
    rw [spec_Turn7.j0]
  rw [e, spec_t7_step (K + 7) x 0 0 hx hx1 (by omega) (by omega) (by omega) (by omega), spec_t7_step (K + 6) _ _ _ (by omega) (by omega) (by omega) (by omega) (by omega) (by omega), spec_t7_step (K + 5) _ _ _ (by omega) (by omega) (by omega) (by omega) (by omega) (by omega), spec_t7_step (K + 4) _ _ _ (by omega) (by omega) (by omega) (by omega) (by omega) (by omega), spec_t7_step (K + 3) _ _ _ (by omega) (by omega) (by omega) (by omega) (by omega) (by omega), spec_t7_step (K + 2) _ _ _ (by omega) (by omega) (by omega) (by omega) (by omega) (by omega), spec_t7_step (K + 1) _ _ _ (by omega) (by omega) (by omega) (by omega) (by omega) (by omega)]
  rw [spec_Turn7.l0, if_neg (by decide)]
  unfold t7
  congr 1
  omega
theorem spec_Turn7_f (K : Nat) (n : Int) (hK : 9 ≤ K) : spec_Turn7.f K n = some (t7 n) := by
  obtain ⟨K, rfl⟩ : ∃ m, K = m + 9 := ⟨K - 9, by omega⟩
  unfold spec_Turn7.f
  have t0 := Int.tmod_lt_of_pos n (show (0 : Int) < 128 by decide)
  have t1 := Int.lt_tmod_of_pos n (show (0 : Int) < 128 by decide)
  have t2 : (Int.tmod n 128) % 128 = n % 128 := by
    have := Int.tmod_add_mul_tdiv n 128
    omega
  have per : ∀ m : Int, m % 128 = n % 128 → t7 m = t7 n := by
    intro m hm
    unfold t7
    omega
  by_cases c : Int.tmod n 128 < 0
  · rw [if_pos c, wr _ (by omega) (by omega), spec_t7_all K _ (by omega) (by omega), per]
    omega
  · rw [if_neg c, spec_t7_all K _ (by omega) (by omega), per]
    exact t2

theorem FnExactTurn7 : laws_FnExactTurn7.Pure := by
  intro n _
  refine ⟨9, ?_⟩
  unfold laws_FnExactTurn7.f
  rw [spec_Turn7_f 9 n (by decide), impl_Turn7_f 9 n (by decide)]
  simp

end Go.Proofs.Ytmlbbikmgnipmaa.Pure
