/- Of every draw: a power of a sum is the product of the powers, a number other than 0 to Q less 1 is 1, and bits that are turned twice are as they were. No condition but the form's own bound on a slice's size. -/
import Derived.Test.YtnbggmmpmppnaaaPFnPowersx2
set_option linter.unusedVariables false
set_option linter.unusedSimpArgs false
namespace Go.Proofs.Ytnbggmmpmppnaaa.Pure
open Go.RowKit Go.Proofs.Ytnbggmmpmppnaaa.PFnPowers Go.Proofs.YtnbggmmpmppnaaaW.PrintWords Go.Proofs.YtnbggmmpmppnaaaW.PrintLast Go.Proofs.YtnbggmmpmppnaaaW.PrintMore

-- snippet plain
/-! bytes as numbers -/
def bl (s : ByteArray) : List Int := s.data.toList.map fun b => (b.toNat : Int)
theorem bl_len (s : ByteArray) : (bl s).length = s.size := by unfold bl; rw [List.length_map, Array.length_toList]; rfl
theorem map_u8_inj : ∀ {a b : List UInt8}, a.map (fun b => (b.toNat : Int)) = b.map (fun b => (b.toNat : Int)) → a = b
  | [], [], _ => rfl
  | [], _ :: _, h => by simp at h
  | _ :: _, [], h => by simp at h
  | x :: a, y :: b, h => by
    simp only [List.map_cons, List.cons.injEq] at h
    have e : x = y := UInt8.toNat_inj.mp (by omega)
    rw [e, map_u8_inj h.2]
theorem bl_inj {s t : ByteArray} (h : bl s = bl t) : s = t := by
  have := map_u8_inj h
  cases s; cases t
  simp only [ByteArray.mk.injEq] at *
  exact Array.toList_inj.mp this
theorem bl_eq {s t : ByteArray} : s = t ↔ bl s = bl t := ⟨fun h => by rw [h], bl_inj⟩
theorem toList_bl {s t : ByteArray} : s.toList = t.toList ↔ bl s = bl t := by
  rw [ByteArray.toList_eq, ByteArray.toList_eq]
  exact ⟨fun h => by unfold bl; rw [h], fun h => by rw [bl_inj h]⟩
theorem bl_range (s : ByteArray) : ∀ x ∈ bl s, 0 ≤ x ∧ x < 256 := by
  intro x hx
  simp only [bl, List.mem_map] at hx
  obtain ⟨b, _, rfl⟩ := hx
  have := b.toNat_lt
  omega
theorem bt_bl (s : ByteArray) (i : Int) : bt s i = (bl s).getD i.toNat 0 := by
  unfold bt bl
  split
  · rename_i h
    have h' : i.toNat < s.data.toList.length := by rw [Array.length_toList]; exact h
    rw [List.getD_eq_getElem?_getD, List.getElem?_map, List.getElem?_eq_getElem h']
    rfl
  · rename_i h
    have h' : s.data.toList.length ≤ i.toNat := by rw [Array.length_toList]; exact Nat.le_of_not_lt h
    rw [List.getD_eq_getElem?_getD, List.getElem?_map, List.getElem?_eq_none h']
    rfl
theorem bl_append (s t : ByteArray) : bl (s ++ t) = bl s ++ bl t := by simp [bl]
theorem bl_extract (s : ByteArray) (a b : Nat) : bl (s.extract a b) = ((bl s).drop a).take (b - a) := by
  simp [bl, List.map_take, List.map_drop]
theorem u8_ofNat (n : Int) (h : 0 ≤ n ∧ n < 256) : ((UInt8.ofNat n.toNat).toNat : Int) = n := by
  rw [UInt8.toNat_ofNat']
  omega
theorem bl_str (xs : List Int) (h : ∀ x ∈ xs, 0 ≤ x ∧ x < 256) : bl (strOfNums xs) = xs := by
  unfold bl
  rw [strOfNums_data, List.map_map]
  conv => rhs; rw [← List.map_id xs]
  exact List.map_congr_left fun x hx => u8_ofNat x (h x hx)
theorem str_bl (s : ByteArray) : strOfNums (bl s) = s := bl_inj (bl_str _ (bl_range s))
theorem str_size (xs : List Int) : (strOfNums xs).size = xs.length := strOfNums_size xs
theorem bl_nil : bl (⟨#[]⟩ : ByteArray) = [] := rfl
theorem bt_lo (s : ByteArray) (i : Int) : 0 ≤ bt s i := (bt_range s i).1
theorem bt_hi (s : ByteArray) (i : Int) : bt s i < 256 := by have := (bt_range s i).2; omega
theorem wr (n : Int) (h : -9223372036854775808 ≤ n) (h' : n ≤ 9223372036854775807) : wrap64 n = n := by unfold wrap64; omega
theorem tdiv_pos (a b : Int) (h : 0 ≤ a) : Int.tdiv a b = a / b := Int.tdiv_eq_ediv_of_nonneg h
theorem tmod_pos (a b : Int) (h : 0 ≤ a) : Int.tmod a b = a % b := Int.tmod_eq_emod_of_nonneg h
theorem succ_of {k d : Nat} (h : d < k) : ∃ m, k = m + 1 := ⟨k - 1, by omega⟩
theorem drop_bt (s : ByteArray) (i : Nat) (h : i < s.size) : (bl s).drop i = bt s i :: (bl s).drop (i + 1) := by
  have h' : i < (bl s).length := by rw [bl_len]; exact h
  rw [List.drop_eq_getElem_cons h', bt_bl, Int.toNat_natCast, List.getD_eq_getElem?_getD, List.getElem?_eq_getElem h']
  rfl
theorem drop_end (s : ByteArray) (i : Nat) (h : s.size ≤ i) : (bl s).drop i = [] := List.drop_eq_nil_of_le (by rw [bl_len]; exact h)
theorem take_snoc_cons {α : Type} (p : List α) (b : α) (l : List α) : (p ++ b :: l).take (p.length + 1) = p ++ [b] := by
  rw [List.take_length_add_append]; simp
attribute [local irreducible] bt

-- snippet powq
/-! PowQ -/
theorem pow_step (x y z : Nat) : z * x % 3329 * (x * x % 3329) ^ (y / 2) % 3329 = z * x ^ (2 * (y / 2) + 1) % 3329 := by
  rw [Nat.mul_mod, Nat.pow_mod, Nat.mod_mod, Nat.mod_mod, ← Nat.pow_mod, ← Nat.mul_mod, Nat.pow_add, Nat.pow_mul, Nat.pow_one, show x ^ 2 = x * x from Nat.pow_two x, Nat.mul_assoc, Nat.mul_comm x]
theorem pow_step0 (x y z : Nat) : z * (x * x % 3329) ^ (y / 2) % 3329 = z * x ^ (2 * (y / 2)) % 3329 := by
  rw [Nat.mul_mod, Nat.pow_mod, Nat.mod_mod, ← Nat.pow_mod, ← Nat.mul_mod, Nat.pow_mul, show x ^ 2 = x * x from Nat.pow_two x]
theorem powq_l0 : ∀ (d K x y z : Nat), y < d → d ≤ K → x < 3329 → z < 3329 → y ≤ 1000000000 → impl_PowQ.l0 K x y z = some ((z * x ^ y % 3329 : Nat) : Int) := by
  intro d
  induction d with
  | zero => intro K x y z h; omega
  | succ d ih =>
    intro K x y z h hK hx hz hy
    obtain ⟨K, rfl⟩ := succ_of hK
    simp only [impl_PowQ.l0]
    by_cases c : 0 < y
    · have xx : x * x < 3329 * 3329 := Nat.mul_lt_mul'' hx hx
      have zx : z * x < 3329 * 3329 := Nat.mul_lt_mul'' hz hx
      have e1 : Int.tmod (wrap64 ((x : Int) * (x : Int))) 3329 = ((x * x % 3329 : Nat) : Int) := by
        rw [show (x : Int) * (x : Int) = ((x * x : Nat) : Int) from by simp, wr _ (by omega) (by omega), tmod_pos _ _ (by omega)]
        omega
      have e2 : Int.tmod (wrap64 ((z : Int) * (x : Int))) 3329 = ((z * x % 3329 : Nat) : Int) := by
        rw [show (z : Int) * (x : Int) = ((z * x : Nat) : Int) from by simp, wr _ (by omega) (by omega), tmod_pos _ _ (by omega)]
        omega
      have e3 : wrap64 (Int.tdiv (y : Int) 2) = ((y / 2 : Nat) : Int) := by
        rw [tdiv_pos _ _ (by omega), wr _ (by omega) (by omega)]; omega
      have e4 : Int.tmod (y : Int) 2 = ((y % 2 : Nat) : Int) := by
        rw [tmod_pos _ _ (by omega)]; omega
      have lt1 : x * x % 3329 < 3329 := Nat.mod_lt _ (by decide)
      have lt2 : z * x % 3329 < 3329 := Nat.mod_lt _ (by decide)
      rw [if_pos (show (y : Int) > 0 by omega), e1, e2, e3, e4]
      have y2 : y / 2 < d := by omega
      have y3 : y / 2 ≤ 1000000000 := by omega
      clear xx zx e1 e2 e3 e4
      by_cases o : y % 2 = 1
      · rw [if_pos (show ((y % 2 : Nat) : Int) = 1 by omega), ih K _ _ _ y2 (by omega) lt1 lt2 y3, pow_step]
        rw [show 2 * (y / 2) + 1 = y by omega]
      · rw [if_neg (show ¬ ((y % 2 : Nat) : Int) = 1 by omega), ih K _ _ _ y2 (by omega) lt1 hz y3, pow_step0]
        rw [show 2 * (y / 2) = y by omega]
    · rw [if_neg (show ¬ (y : Int) > 0 by omega)]
      obtain rfl : y = 0 := by omega
      rw [Nat.pow_zero, Nat.mul_one, Nat.mod_eq_of_lt hz]
theorem PowQ_f (K b e : Nat) (hK : 1000000001 ≤ K) (hb : b < 3329) (he : e ≤ 1000000000) : impl_PowQ.f K b e = some ((b ^ e % 3329 : Nat) : Int) := by
  unfold impl_PowQ.f impl_in.f impl_modQ.f
  rw [if_pos (show (e : Int) ≥ 0 by omega), Option.bind_some, if_pos (by simp; omega), Option.bind_some]
  have m : Int.tmod (wrap64 (Int.tmod (b : Int) 3329 + 3329)) 3329 = (b : Int) := by
    rw [tmod_pos (b : Int) _ (by omega), wr _ (by omega) (by omega), tmod_pos _ _ (by omega)]
    omega
  have := powq_l0 1000000001 K b e 1 (by omega) hK hb (by decide) he
  rw [Nat.one_mul] at this
  rw [m]
  exact this
theorem PowQ_neg (K : Nat) (b e : Int) (he : e < 0) : impl_PowQ.f K b e = some 0 := by
  unfold impl_PowQ.f impl_in.f
  rw [if_neg (show ¬ e ≥ 0 by omega), Option.bind_some, if_neg (by simp)]

-- snippet draw
/-! draws -/
theorem mask_range (x : Int) : 0 ≤ Go.bits .and .i64 x 255 ∧ Go.bits .and .i64 x 255 ≤ 255 := by
  unfold Go.bits
  have h : (BitVec.ofInt IntKind.i64.bits x &&& BitVec.ofInt IntKind.i64.bits 255).toNat ≤ 255 := by
    rw [BitVec.toNat_and]
    exact Nat.le_trans Nat.and_le_right (by decide)
  simp only [IntKind.wrap_i64]
  generalize (BitVec.ofInt IntKind.i64.bits x &&& BitVec.ofInt IntKind.i64.bits 255).toNat = n at h
  omega
def curOk (b : List Int) (i : Int) : Prop := 0 ≤ i ∧ i ≤ b.length
theorem byte_ok (b : List Int) (hb : b.length ≤ 1048576) (i h : Int) (hi : curOk b i) : ∃ x i' h', spec_l01Byte.f b i h = some (x, i', h') ∧ 0 ≤ x ∧ x ≤ 255 ∧ curOk b i' := by
  obtain ⟨h0, h1⟩ := hi
  unfold spec_l01Byte.f
  by_cases c : i < (b.length : Int)
  · rw [if_pos c, if_pos h0, wr (i + 1) (by omega) (by omega)]
    exact ⟨_, _, _, rfl, (mask_range _).1, (mask_range _).2, by unfold curOk; omega⟩
  · rw [if_neg c]
    exact ⟨_, _, _, rfl, (mask_range _).1, (mask_range _).2, ⟨h0, h1⟩⟩
theorem below_ok (b : List Int) (hb : b.length ≤ 1048576) (i h n : Int) (hi : curOk b i) (hn : 0 < n) : ∃ x i' h', spec_l01Below.f b i h n = some (x, i', h') ∧ 0 ≤ x ∧ x < n ∧ curOk b i' := by
  unfold spec_l01Below.f
  rw [if_neg (show ¬ n ≤ 0 by omega)]
  obtain ⟨x1, i1, h1, e1, l1, u1, c1⟩ := byte_ok b hb i h hi
  by_cases c : n ≤ 256
  · rw [if_pos c, e1, Option.bind_some, if_neg (show ¬ n = 0 by omega)]
    exact ⟨_, _, _, rfl, Int.tmod_nonneg _ l1, Int.tmod_lt_of_pos _ hn, c1⟩
  · obtain ⟨x2, i2, h2, e2, l2, u2, c2⟩ := byte_ok b hb i1 h1 c1
    obtain ⟨x3, i3, h3, e3, l3, u3, c3⟩ := byte_ok b hb i2 h2 c2
    obtain ⟨x4, i4, h4, e4, l4, u4, c4⟩ := byte_ok b hb i3 h3 c3
    rw [if_neg c, e1, Option.bind_some]
    simp only
    rw [e2, Option.bind_some]
    simp only
    rw [e3, Option.bind_some]
    simp only
    rw [e4, Option.bind_some]
    simp only
    rw [if_neg (show ¬ n = 0 by omega), wr (x1 * 16777216) (by omega) (by omega), wr (x2 * 65536) (by omega) (by omega), wr (x3 * 256) (by omega) (by omega), wr (x1 * 16777216 + x2 * 65536) (by omega) (by omega), wr (x1 * 16777216 + x2 * 65536 + x3 * 256) (by omega) (by omega), wr (x1 * 16777216 + x2 * 65536 + x3 * 256 + x4) (by omega) (by omega)]
    exact ⟨_, _, _, rfl, Int.tmod_nonneg _ (by omega), Int.tmod_lt_of_pos _ hn, c4⟩
theorem new_l0 (b : List Int) (hb : b.length ≤ 1048576) : ∀ (d : Nat) (i : Nat) (h : Int), i + d = 4000 → ∃ h', ∀ K, d < K → spec_l01New.l0 K b h i = some (b, 0, h') := by
  intro d
  induction d with
  | zero =>
    intro i h hi
    refine ⟨h, fun K hK => ?_⟩
    obtain ⟨K, rfl⟩ := succ_of hK
    simp only [spec_l01New.l0]
    by_cases c : (i : Int) < (b.length : Int)
    · rw [if_pos c, if_neg (show ¬ (i : Int) < 4000 by omega)]
    · rw [if_neg c]
  | succ d ih =>
    intro i h hi
    by_cases c : (i : Int) < (b.length : Int)
    · obtain ⟨h', e⟩ := ih (i + 1) (Go.bits .and .i64 (wrap64 ((wrap64 ((wrap64 (h * 131)) + (wrap64 (rd b i)))) + 7)) 1073741823) (by omega)
      refine ⟨h', fun K hK => ?_⟩
      obtain ⟨K, rfl⟩ := succ_of hK
      simp only [spec_l01New.l0]
      rw [if_pos c, if_pos (show (i : Int) < 4000 by omega), if_pos (show 0 ≤ (i : Int) by omega), wr ((i : Int) + 1) (by omega) (by omega), show ((i : Int) + 1) = ((i + 1 : Nat) : Int) by omega]
      exact e K (by omega)
    · refine ⟨h, fun K hK => ?_⟩
      obtain ⟨K, rfl⟩ := succ_of hK
      simp only [spec_l01New.l0]
      rw [if_neg c]
theorem new_ok (b : List Int) (hb : b.length ≤ 1048576) : ∃ h', ∀ K, 4001 ≤ K → spec_l01New.f K b = some (b, 0, h') := by
  obtain ⟨h', e⟩ := new_l0 b hb 4000 0 (wrap64 (27401 + (b.length : Int))) (by omega)
  exact ⟨h', fun K hK => e K (by omega)⟩

-- snippet places
theorem places_l0 (b : List Int) (hb : b.length ≤ 1048576) : ∀ (d : Nat) (acc : List Int) (i h : Int), acc.length + d = 12 → curOk b i → (∀ x ∈ acc, 0 ≤ x ∧ x < 10000) → ∃ p : List Int, p.length = 12 ∧ (∀ x ∈ p, 0 ≤ x ∧ x < 10000) ∧ ∀ K, d < K → spec_DrawPlaces.l0 K acc (acc.length : Int) b i h = some p := by
  intro d
  induction d with
  | zero =>
    intro acc i h hl hi hx
    refine ⟨acc, by omega, hx, fun K hK => ?_⟩
    obtain ⟨K, rfl⟩ := succ_of hK
    simp only [spec_DrawPlaces.l0]
    rw [if_neg (show ¬ (acc.length : Int) < 12 by omega)]
  | succ d ih =>
    intro acc i h hl hi hx
    obtain ⟨x, i', h', e, l, u, c⟩ := below_ok b hb i h 10000 hi (by decide)
    obtain ⟨p, hp, hpx, ep⟩ := ih (acc ++ [x]) i' h' (by simp; omega) c (by
      intro y hy
      rcases List.mem_append.mp hy with hy | hy
      · exact hx y hy
      · rw [List.mem_singleton] at hy; omega)
    refine ⟨p, hp, hpx, fun K hK => ?_⟩
    obtain ⟨K, rfl⟩ := succ_of hK
    simp only [spec_DrawPlaces.l0]
    rw [if_pos (show (acc.length : Int) < 12 by omega), e, Option.bind_some, if_pos (show acc.length < 17592186044416 by omega), wr ((acc.length : Int) + 1) (by omega) (by omega)]
    have := ep K (by omega)
    rw [List.length_append, List.length_singleton] at this
    exact this
theorem places_ok (b : List Int) (hb : b.length ≤ 1048576) : ∃ p : List Int, p.length = 12 ∧ (∀ x ∈ p, 0 ≤ x ∧ x < 10000) ∧ ∀ K, 5000 ≤ K → spec_DrawPlaces.f K b = some p := by
  obtain ⟨h, e⟩ := new_ok b hb
  obtain ⟨x, i, h', e2, _, _, c⟩ := byte_ok b hb 0 h ⟨by omega, by omega⟩
  obtain ⟨p, hp, hx, e3⟩ := places_l0 b hb 12 [] i h' rfl c (by simp)
  refine ⟨p, hp, hx, fun K hK => ?_⟩
  unfold spec_DrawPlaces.f
  rw [e K (by omega), Option.bind_some]
  simp only
  rw [e2, Option.bind_some]
  exact e3 K (by omega)

-- snippet turn7
/-! Turn7 -/
/-- seven bits turned around, of n modulo 128 -/
def t7 (n : Int) : Int := 64 * (n % 2) + 32 * (n / 2 % 2) + 16 * (n / 4 % 2) + 8 * (n / 8 % 2) + 4 * (n / 16 % 2) + 2 * (n / 32 % 2) + n / 64 % 2
theorem and1_i64 (x : Int) : Go.bits .and .i64 x 1 = x % 2 := by
  unfold Go.bits
  have h : ((BitVec.ofInt IntKind.i64.bits x &&& BitVec.ofInt IntKind.i64.bits 1).toNat : Int) = x % 2 := by
    rw [BitVec.toNat_and, show (BitVec.ofInt IntKind.i64.bits 1).toNat = 2 ^ 1 - 1 from by decide, Nat.and_two_pow_sub_one_eq_mod, BitVec.toNat_ofInt]
    have e : ((2 : Nat) ^ IntKind.i64.bits : Nat) = 18446744073709551616 := by decide
    rw [e]
    omega
  simp only [h, IntKind.wrap_i64]
  omega
theorem shr_val (x : Int) (j : Nat) (h : j < 7) : shr .i64 x (j : Int) = x / 2 ^ j := by
  unfold shr
  rw [Int.toNat_natCast]
  congr 2
  rw [show IntKind.i64.bits = 64 from rfl]
  omega
theorem impl_t7_step (K : Nat) (x y : Int) (j : Nat) (hj : j < 7) (h0 : 0 ≤ y) (h1 : y < 1000) : impl_Turn7.l0 (K + 1) x y j = impl_Turn7.l0 K x (2 * y + x / 2 ^ j % 2) ((j + 1 : Nat) : Int) := by
  simp only [impl_Turn7.l0]
  have r := Int.emod_nonneg (x / 2 ^ j) (show (2 : Int) ≠ 0 by decide)
  have r2 := Int.emod_lt_of_pos (x / 2 ^ j) (show (0 : Int) < 2 by decide)
  rw [if_pos (show (j : Int) < 7 by omega), if_pos (show 0 ≤ (j : Int) by omega), shr_val x j hj, and1_i64, wr (2 * y) (by omega) (by omega), wr _ (by omega) (by omega), wr ((j : Int) + 1) (by omega) (by omega)]
  rfl
theorem impl_Turn7_f (K : Nat) (n : Int) (hK : 8 ≤ K) : impl_Turn7.f K n = some (t7 n) := by
  obtain ⟨K, rfl⟩ : ∃ m, K = m + 8 := ⟨K - 8, by omega⟩
  unfold impl_Turn7.f
  have e := impl_t7_step (K + 7) n 0 0 (by decide) (by decide) (by decide)
  simp only [Int.natCast_zero, Nat.zero_add] at e
  have p0 : n / 2 ^ 0 = n := by simp
  rw [p0] at e
  rw [e, impl_t7_step (K + 6) n _ 1 (by decide) (by omega) (by omega), impl_t7_step (K + 5) n _ 2 (by decide) (by omega) (by omega), impl_t7_step (K + 4) n _ 3 (by decide) (by omega) (by omega), impl_t7_step (K + 3) n _ 4 (by decide) (by omega) (by omega), impl_t7_step (K + 2) n _ 5 (by decide) (by omega) (by omega), impl_t7_step (K + 1) n _ 6 (by decide) (by omega) (by omega)]
  simp only [impl_Turn7.l0]
  rw [if_neg (by decide)]
  unfold t7
  congr 1
  omega

-- snippet turn7_spec
theorem spec_t7_step (K : Nat) (x y j : Int) (hx : 0 ≤ x) (hx1 : x < 128) (hj0 : 0 ≤ j) (hj : j < 7) (h0 : 0 ≤ y) (h1 : y < 1000) : spec_Turn7.l0 (K + 1) x y j = spec_Turn7.l0 K (x / 2) (2 * y + x % 2) (j + 1) := by
  simp only [spec_Turn7.l0]
  rw [if_pos hj, tdiv_pos _ _ hx, tmod_pos _ _ hx, wr (x / 2) (by omega) (by omega), wr (2 * y) (by omega) (by omega), wr _ (by omega) (by omega), wr (j + 1) (by omega) (by omega)]
theorem spec_t7_all (K : Nat) (x : Int) (hx : 0 ≤ x) (hx1 : x < 128) : spec_Turn7.j0 (K + 9) x = some (t7 x) := by
  have e : spec_Turn7.j0 (K + 9) x = spec_Turn7.l0 (K + 8) x 0 0 := by
    rw [spec_Turn7.j0]
  rw [e, spec_t7_step (K + 7) x 0 0 hx hx1 (by omega) (by omega) (by omega) (by omega), spec_t7_step (K + 6) _ _ _ (by omega) (by omega) (by omega) (by omega) (by omega) (by omega), spec_t7_step (K + 5) _ _ _ (by omega) (by omega) (by omega) (by omega) (by omega) (by omega), spec_t7_step (K + 4) _ _ _ (by omega) (by omega) (by omega) (by omega) (by omega) (by omega), spec_t7_step (K + 3) _ _ _ (by omega) (by omega) (by omega) (by omega) (by omega) (by omega), spec_t7_step (K + 2) _ _ _ (by omega) (by omega) (by omega) (by omega) (by omega) (by omega), spec_t7_step (K + 1) _ _ _ (by omega) (by omega) (by omega) (by omega) (by omega) (by omega)]
  rw [spec_Turn7.l0, if_neg (by decide)]
  unfold t7
  congr 1
  omega
theorem spec_Turn7_f (K : Nat) (n : Int) (hK : 9 ≤ K) : spec_Turn7.f K n = some (t7 n) := by
  obtain ⟨K, rfl⟩ : ∃ m, K = m + 9 := ⟨K - 9, by omega⟩
  unfold spec_Turn7.f
  have t0 := Int.tmod_lt_of_pos n (show (0 : Int) < 128 by decide)
  have t1 := Int.lt_tmod_of_pos n (show (0 : Int) < 128 by decide)
  have t2 : (Int.tmod n 128) % 128 = n % 128 := by
    have := Int.tmod_add_mul_tdiv n 128
    omega
  have per : ∀ m : Int, m % 128 = n % 128 → t7 m = t7 n := by
    intro m hm
    unfold t7
    omega
  by_cases c : Int.tmod n 128 < 0
  · rw [if_pos c, wr _ (by omega) (by omega), spec_t7_all K _ (by omega) (by omega), per]
    omega
  · rw [if_neg c, spec_t7_all K _ (by omega) (by omega), per]
    exact t2

theorem fermat_all : (List.range 3328).all (fun b => (b + 1) ^ 3328 % 3329 == 1) = true := by decide +kernel
theorem fermat (b : Nat) (h0 : 1 ≤ b) (h1 : b < 3329) : b ^ 3328 % 3329 = 1 := by
  have := List.all_eq_true.mp fermat_all (b - 1) (List.mem_range.mpr (by omega))
  rw [Nat.sub_add_cancel h0] at this
  simpa using this
theorem t7_twice : ∀ n : Fin 128, t7 (t7 (n.val : Int)) = (n.val : Int) := by decide +kernel
theorem t7_range (n : Int) : 0 ≤ t7 n ∧ t7 n < 128 := by unfold t7; omega
theorem rd_mem (l : List Int) (j : Nat) (h : j < l.length) : rd l (j : Int) ∈ l := by
  unfold rd
  rw [Int.toNat_natCast, List.getD_eq_getElem?_getD, List.getElem?_eq_getElem h]
  exact List.getElem_mem _
theorem FnPowers : laws_FnPowers.Pure := by
  intro l hl _ _
  by_cases h : (l.length : Int) > 1048576
  · refine ⟨0, ?_⟩
    unfold laws_FnPowers.f laws_big.f
    rw [Option.bind_some, if_pos (by simp; omega)]
  · obtain ⟨p, hp, hpr, ep⟩ := places_ok l (by omega)
    refine ⟨1000000001, ?_⟩
    unfold laws_FnPowers.f laws_big.f
    have m0 := hpr _ (rd_mem p 0 (by omega))
    have m1 := hpr _ (rd_mem p 1 (by omega))
    have m2 := hpr _ (rd_mem p 2 (by omega))
    have m3 := hpr _ (rd_mem p 3 (by omega))
    rw [Option.bind_some, if_neg (by simp; omega), ep _ (by omega), Option.bind_some, if_pos (show 0 < (p.length : Int) by omega), if_pos (show 1 < (p.length : Int) by omega), if_pos (show 2 < (p.length : Int) by omega)]
    rw [show ((0 : Nat) : Int) = 0 from rfl] at m0
    rw [show ((1 : Nat) : Int) = 1 from rfl] at m1
    rw [show ((2 : Nat) : Int) = 2 from rfl] at m2
    rw [show ((3 : Nat) : Int) = 3 from rfl] at m3
    obtain ⟨a, ha⟩ := Int.eq_ofNat_of_zero_le m0.1
    obtain ⟨b, hb⟩ := Int.eq_ofNat_of_zero_le m1.1
    obtain ⟨c, hc⟩ := Int.eq_ofNat_of_zero_le m2.1
    obtain ⟨d, hd⟩ := Int.eq_ofNat_of_zero_le m3.1
    rw [ha] at m0
    rw [hb] at m1
    rw [hc] at m2
    rw [hd] at m3
    have eb : wrap64 (1 + Int.tmod (rd p 0) 3328) = ((1 + a % 3328 : Nat) : Int) := by
      rw [ha, tmod_pos _ _ (by omega), wr _ (by omega) (by omega)]; omega
    have es : wrap64 (rd p 1 + rd p 2) = ((b + c : Nat) : Int) := by
      rw [hb, hc, wr _ (by omega) (by omega)]; omega
    have ed : Int.tmod (rd p 3) 128 = ((d % 128 : Nat) : Int) := by
      rw [hd, tmod_pos _ _ (by omega)]; omega
    have lt : 1 + a % 3328 < 3329 := by omega
    rw [eb, es, hb, hc, ed]
    have B0 : b + c ≤ 1000000000 := by omega
    have B1 : b ≤ 1000000000 := by omega
    have B2 : c ≤ 1000000000 := by omega
    clear m0 m1 m2 m3 eb es ed ha
    have one : 1 ≤ 1 + a % 3328 := by omega
    generalize 1 + a % 3328 = g at *
    have K1 : 1000000001 ≤ 1000000001 := Nat.le_refl _
    rw [PowQ_f 1000000001 g (b + c) K1 lt B0, Option.bind_some, PowQ_f 1000000001 g b K1 lt B1, Option.bind_some, PowQ_f 1000000001 g c K1 lt B2, Option.bind_some]
    rw [if_pos (show 3 < (p.length : Int) by rw [hp]; decide)]
    have r1 : g ^ b % 3329 < 3329 := Nat.mod_lt _ (by decide)
    have r2 : g ^ c % 3329 < 3329 := Nat.mod_lt _ (by decide)
    have prod : Int.tmod (wrap64 (((g ^ b % 3329 : Nat) : Int) * ((g ^ c % 3329 : Nat) : Int))) 3329 = ((g ^ (b + c) % 3329 : Nat) : Int) := by
      have e : g ^ (b + c) % 3329 = (g ^ b % 3329) * (g ^ c % 3329) % 3329 := by rw [Nat.pow_add, Nat.mul_mod]
      rw [e]
      generalize g ^ b % 3329 = u at *
      generalize g ^ c % 3329 = v at *
      have uv : u * v < 3329 * 3329 := Nat.mul_lt_mul'' r1 r2
      rw [show (u : Int) * (v : Int) = ((u * v : Nat) : Int) from by simp, wr _ (by omega) (by omega), tmod_pos _ _ (by omega)]
      omega
    rw [prod, if_pos rfl]
    have f1 := PowQ_f 1000000001 g 3328 K1 lt (by decide)
    rw [fermat g one lt] at f1
    rw [show ((3328 : Nat) : Int) = 3328 from rfl] at f1
    rw [f1, Option.bind_some, if_pos (by decide)]
    have tw := t7_twice ⟨d % 128, Nat.mod_lt _ (by decide)⟩
    have tr := t7_range ((d % 128 : Nat) : Int)
    rw [impl_Turn7_f _ _ (by decide), Option.bind_some, impl_Turn7_f _ _ (by decide), Option.bind_some, if_pos tw, Option.bind_some, spec_Turn7_f _ _ (by decide), Option.bind_some, if_pos rfl, PowQ_neg _ _ _ (by decide), Option.bind_some, if_pos rfl]
    have f2 := PowQ_f 1000000001 17 128 K1 (by decide) (by decide)
    rw [show ((17 : Nat) : Int) = 17 from rfl, show ((128 : Nat) : Int) = 128 from rfl] at f2
    rw [f2]
    decide +kernel

end Go.Proofs.Ytnbggmmpmppnaaa.Pure
