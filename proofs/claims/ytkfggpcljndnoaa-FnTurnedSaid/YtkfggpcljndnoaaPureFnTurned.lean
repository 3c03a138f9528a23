/- Of every drawn text: sealed and unsealed it is what it was; one byte another, it is not unsealed; the check sum goes on. No condition. -/
import Derived.Test.YtkfggpcljndnoaaPFnTurnedx3
import Derived.Test.YtkfggpcljndnoaaTuW
import Derived.Laws.BitsAllLaws
set_option linter.unusedVariables false
set_option linter.unusedSimpArgs false
namespace Go.Proofs.Ytkfggpcljndnoaa.Pure
open Go.RowKit Go.Proofs.Ytkfggpcljndnoaa.PFnTurned Go.Proofs.YtkfggpcljndnoaaW.PrintWords Go.Proofs.YtkfggpcljndnoaaW.PrintLast Go.Proofs.YtkfggpcljndnoaaW.PrintMore

-- snippet plain
/-! bytes as numbers -/
def bl (s : ByteArray) : List Int := s.data.toList.map fun b => (b.toNat : Int)
theorem bl_len (s : ByteArray) : (bl s).length = s.size := by unfold bl; rw [List.length_map, Array.length_toList]; rfl
theorem map_u8_inj : ∀ {a b : List UInt8}, a.map (fun b => (b.toNat : Int)) = b.map (fun b => (b.toNat : Int)) → a = b
  | [], [], _ => rfl
  | [], _ :: _, h => by simp at h
  | _ :: _, [], h => by simp at h
  | x :: a, y :: b, h => by
    simp only [List.map_cons, List.cons.injEq] at h
    have e : x = y := UInt8.toNat_inj.mp (by omega)
    rw [e, map_u8_inj h.2]
theorem bl_inj {s t : ByteArray} (h : bl s = bl t) : s = t := by
  have := map_u8_inj h
  cases s; cases t
  simp only [ByteArray.mk.injEq] at *
  exact Array.toList_inj.mp this
theorem bl_eq {s t : ByteArray} : s = t ↔ bl s = bl t := ⟨fun h => by rw [h], bl_inj⟩
theorem toList_bl {s t : ByteArray} : s.toList = t.toList ↔ bl s = bl t := by
  rw [ByteArray.toList_eq, ByteArray.toList_eq]
  exact ⟨fun h => by unfold bl; rw [h], fun h => by rw [bl_inj h]⟩
theorem bl_range (s : ByteArray) : ∀ x ∈ bl s, 0 ≤ x ∧ x < 256 := by
  intro x hx
  simp only [bl, List.mem_map] at hx
  obtain ⟨b, _, rfl⟩ := hx
  have := b.toNat_lt
  omega
theorem bt_bl (s : ByteArray) (i : Int) : bt s i = (bl s).getD i.toNat 0 := by
  unfold bt bl
  split
  · rename_i h
    have h' : i.toNat < s.data.toList.length := by rw [Array.length_toList]; exact h
    rw [List.getD_eq_getElem?_getD, List.getElem?_map, List.getElem?_eq_getElem h']
    rfl
  · rename_i h
    have h' : s.data.toList.length ≤ i.toNat := by rw [Array.length_toList]; exact Nat.le_of_not_lt h
    rw [List.getD_eq_getElem?_getD, List.getElem?_map, List.getElem?_eq_none h']
    rfl
theorem bl_append (s t : ByteArray) : bl (s ++ t) = bl s ++ bl t := by simp [bl]
theorem bl_extract (s : ByteArray) (a b : Nat) : bl (s.extract a b) = ((bl s).drop a).take (b - a) := by
  simp [bl, List.map_take, List.map_drop]
theorem u8_ofNat (n : Int) (h : 0 ≤ n ∧ n < 256) : ((UInt8.ofNat n.toNat).toNat : Int) = n := by
  rw [UInt8.toNat_ofNat']
  omega
theorem bl_str (xs : List Int) (h : ∀ x ∈ xs, 0 ≤ x ∧ x < 256) : bl (strOfNums xs) = xs := by
  unfold bl
  rw [strOfNums_data, List.map_map]
  conv => rhs; rw [← List.map_id xs]
  exact List.map_congr_left fun x hx => u8_ofNat x (h x hx)
theorem str_bl (s : ByteArray) : strOfNums (bl s) = s := bl_inj (bl_str _ (bl_range s))
theorem str_size (xs : List Int) : (strOfNums xs).size = xs.length := strOfNums_size xs
theorem bl_nil : bl (⟨#[]⟩ : ByteArray) = [] := rfl
theorem bt_lo (s : ByteArray) (i : Int) : 0 ≤ bt s i := (bt_range s i).1
theorem bt_hi (s : ByteArray) (i : Int) : bt s i < 256 := by have := (bt_range s i).2; omega
theorem wr (n : Int) (h : -9223372036854775808 ≤ n) (h' : n ≤ 9223372036854775807) : wrap64 n = n := by unfold wrap64; omega
theorem wrn {z : Int} (n : Nat) (e : z = n) (h : n ≤ 9223372036854775807) : wrap64 z = n := by rw [e]; exact wr _ (by omega) (by omega)
theorem tdiv_pos (a b : Int) (h : 0 ≤ a) : Int.tdiv a b = a / b := Int.tdiv_eq_ediv_of_nonneg h
theorem tmod_pos (a b : Int) (h : 0 ≤ a) : Int.tmod a b = a % b := Int.tmod_eq_emod_of_nonneg h
theorem succ_of {k d : Nat} (h : d < k) : ∃ m, k = m + 1 := ⟨k - 1, by omega⟩
theorem drop_bt (s : ByteArray) (i : Nat) (h : i < s.size) : (bl s).drop i = bt s i :: (bl s).drop (i + 1) := by
  have h' : i < (bl s).length := by rw [bl_len]; exact h
  rw [List.drop_eq_getElem_cons h', bt_bl, Int.toNat_natCast, List.getD_eq_getElem?_getD, List.getElem?_eq_getElem h']
  rfl
theorem drop_end (s : ByteArray) (i : Nat) (h : s.size ≤ i) : (bl s).drop i = [] := List.drop_eq_nil_of_le (by rw [bl_len]; exact h)
theorem take_snoc_cons {α : Type} (p : List α) (b : α) (l : List α) : (p ++ b :: l).take (p.length + 1) = p ++ [b] := by
  rw [List.take_length_add_append]; simp
attribute [local irreducible] bt

-- snippet draw
/-! draws -/
theorem mask_range (x : Int) : 0 ≤ Go.bits .and .i64 x 255 ∧ Go.bits .and .i64 x 255 ≤ 255 := by
  unfold Go.bits
  have h : (BitVec.ofInt IntKind.i64.bits x &&& BitVec.ofInt IntKind.i64.bits 255).toNat ≤ 255 := by
    rw [BitVec.toNat_and]
    exact Nat.le_trans Nat.and_le_right (by decide)
  simp only [IntKind.wrap_i64]
  generalize (BitVec.ofInt IntKind.i64.bits x &&& BitVec.ofInt IntKind.i64.bits 255).toNat = n at h
  omega
def curOk (b : List Int) (i : Int) : Prop := 0 ≤ i ∧ i ≤ b.length
theorem byte_ok (b : List Int) (hb : b.length ≤ 1048576) (i h : Int) (hi : curOk b i) : ∃ x i' h', spec_l01Byte.f b i h = some (x, i', h') ∧ 0 ≤ x ∧ x ≤ 255 ∧ curOk b i' := by
  obtain ⟨h0, h1⟩ := hi
  unfold spec_l01Byte.f
  by_cases c : i < (b.length : Int)
  · rw [if_pos c, if_pos h0, wr (i + 1) (by omega) (by omega)]
    exact ⟨_, _, _, rfl, (mask_range _).1, (mask_range _).2, by unfold curOk; omega⟩
  · rw [if_neg c]
    exact ⟨_, _, _, rfl, (mask_range _).1, (mask_range _).2, ⟨h0, h1⟩⟩
theorem below_ok (b : List Int) (hb : b.length ≤ 1048576) (i h n : Int) (hi : curOk b i) (hn : 0 < n) : ∃ x i' h', spec_l01Below.f b i h n = some (x, i', h') ∧ 0 ≤ x ∧ x < n ∧ curOk b i' := by
  unfold spec_l01Below.f
  rw [if_neg (show ¬ n ≤ 0 by omega)]
  obtain ⟨x1, i1, h1, e1, l1, u1, c1⟩ := byte_ok b hb i h hi
  by_cases c : n ≤ 256
  · rw [if_pos c, e1, Option.bind_some, if_neg (show ¬ n = 0 by omega)]
    exact ⟨_, _, _, rfl, Int.tmod_nonneg _ l1, Int.tmod_lt_of_pos _ hn, c1⟩
  · obtain ⟨x2, i2, h2, e2, l2, u2, c2⟩ := byte_ok b hb i1 h1 c1
    obtain ⟨x3, i3, h3, e3, l3, u3, c3⟩ := byte_ok b hb i2 h2 c2
    obtain ⟨x4, i4, h4, e4, l4, u4, c4⟩ := byte_ok b hb i3 h3 c3
    rw [if_neg c, e1, Option.bind_some]
    simp only
    rw [e2, Option.bind_some]
    simp only
    rw [e3, Option.bind_some]
    simp only
    rw [e4, Option.bind_some]
    simp only
    rw [if_neg (show ¬ n = 0 by omega), wr (x1 * 16777216) (by omega) (by omega), wr (x2 * 65536) (by omega) (by omega), wr (x3 * 256) (by omega) (by omega), wr (x1 * 16777216 + x2 * 65536) (by omega) (by omega), wr (x1 * 16777216 + x2 * 65536 + x3 * 256) (by omega) (by omega), wr (x1 * 16777216 + x2 * 65536 + x3 * 256 + x4) (by omega) (by omega)]
    exact ⟨_, _, _, rfl, Int.tmod_nonneg _ (by omega), Int.tmod_lt_of_pos _ hn, c4⟩
theorem new_l0 (b : List Int) (hb : b.length ≤ 1048576) : ∀ (d : Nat) (i : Nat) (h : Int), i + d = 4000 → ∃ h', ∀ K, d < K → spec_l01New.l0 K b h i = some (b, 0, h') := by
  intro d
  induction d with
  | zero =>
    intro i h hi
    refine ⟨h, fun K hK => ?_⟩
    obtain ⟨K, rfl⟩ := succ_of hK
    simp only [spec_l01New.l0]
    by_cases c : (i : Int) < (b.length : Int)
    · rw [if_pos c, if_neg (show ¬ (i : Int) < 4000 by omega)]
    · rw [if_neg c]
  | succ d ih =>
    intro i h hi
    by_cases c : (i : Int) < (b.length : Int)
    · obtain ⟨h', e⟩ := ih (i + 1) (Go.bits .and .i64 (wrap64 ((wrap64 ((wrap64 (h * 131)) + (wrap64 (rd b i)))) + 7)) 1073741823) (by omega)
      refine ⟨h', fun K hK => ?_⟩
      obtain ⟨K, rfl⟩ := succ_of hK
      simp only [spec_l01New.l0]
      rw [if_pos c, if_pos (show (i : Int) < 4000 by omega), if_pos (show 0 ≤ (i : Int) by omega), wr ((i : Int) + 1) (by omega) (by omega), show ((i : Int) + 1) = ((i + 1 : Nat) : Int) by omega]
      exact e K (by omega)
    · refine ⟨h, fun K hK => ?_⟩
      obtain ⟨K, rfl⟩ := succ_of hK
      simp only [spec_l01New.l0]
      rw [if_neg c]
theorem new_ok (b : List Int) (hb : b.length ≤ 1048576) : ∃ h', ∀ K, 4001 ≤ K → spec_l01New.f K b = some (b, 0, h') := by
  obtain ⟨h', e⟩ := new_l0 b hb 4000 0 (wrap64 (27401 + (b.length : Int))) (by omega)
  exact ⟨h', fun K hK => e K (by omega)⟩

-- snippet places
theorem places_l0 (b : List Int) (hb : b.length ≤ 1048576) : ∀ (d : Nat) (acc : List Int) (i h : Int), acc.length + d = 12 → curOk b i → (∀ x ∈ acc, 0 ≤ x ∧ x < 10000) → ∃ p : List Int, p.length = 12 ∧ (∀ x ∈ p, 0 ≤ x ∧ x < 10000) ∧ ∀ K, d < K → spec_DrawPlaces.l0 K acc (acc.length : Int) b i h = some p := by
  intro d
  induction d with
  | zero =>
    intro acc i h hl hi hx
    refine ⟨acc, by omega, hx, fun K hK => ?_⟩
    obtain ⟨K, rfl⟩ := succ_of hK
    simp only [spec_DrawPlaces.l0]
    rw [if_neg (show ¬ (acc.length : Int) < 12 by omega)]
  | succ d ih =>
    intro acc i h hl hi hx
    obtain ⟨x, i', h', e, l, u, c⟩ := below_ok b hb i h 10000 hi (by decide)
    obtain ⟨p, hp, hpx, ep⟩ := ih (acc ++ [x]) i' h' (by simp; omega) c (by
      intro y hy
      rcases List.mem_append.mp hy with hy | hy
      · exact hx y hy
      · rw [List.mem_singleton] at hy; omega)
    refine ⟨p, hp, hpx, fun K hK => ?_⟩
    obtain ⟨K, rfl⟩ := succ_of hK
    simp only [spec_DrawPlaces.l0]
    rw [if_pos (show (acc.length : Int) < 12 by omega), e, Option.bind_some, if_pos (show acc.length < 17592186044416 by omega), wr ((acc.length : Int) + 1) (by omega) (by omega)]
    have := ep K (by omega)
    rw [List.length_append, List.length_singleton] at this
    exact this
theorem places_ok (b : List Int) (hb : b.length ≤ 1048576) : ∃ p : List Int, p.length = 12 ∧ (∀ x ∈ p, 0 ≤ x ∧ x < 10000) ∧ ∀ K, 5000 ≤ K → spec_DrawPlaces.f K b = some p := by
  obtain ⟨h, e⟩ := new_ok b hb
  obtain ⟨x, i, h', e2, _, _, c⟩ := byte_ok b hb 0 h ⟨by omega, by omega⟩
  obtain ⟨p, hp, hx, e3⟩ := places_l0 b hb 12 [] i h' rfl c (by simp)
  refine ⟨p, hp, hx, fun K hK => ?_⟩
  unfold spec_DrawPlaces.f
  rw [e K (by omega), Option.bind_some]
  simp only
  rw [e2, Option.bind_some]
  exact e3 K (by omega)

-- snippet textcore
theorem text_l0 (b : List Int) (hb : b.length ≤ 1048576) (n : Int) : ∀ (d : Nat) (j : Nat) (acc : List Int) (i h : Int), (n : Int) ≤ j + d → j + d ≤ 5000 → acc.length + d ≤ 5000 → curOk b i → (∀ x ∈ acc, 0 ≤ x ∧ x < 256) → ∃ t i' h', t.size ≤ acc.length + d ∧ curOk b i' ∧ ∀ K, d < K → spec_l01Text.l0 K n acc j b i h = some (t, i', h') := by
  intro d
  induction d with
  | zero =>
    intro j acc i h hn hj hl hi hx
    refine ⟨strOfNums acc, i, h, by rw [str_size acc]; omega, hi, fun K hK => ?_⟩
    obtain ⟨K, rfl⟩ := succ_of hK
    simp only [spec_l01Text.l0]
    rw [if_neg (show ¬ (j : Int) < n by omega)]
  | succ d ih =>
    intro j acc i h hn hj hl hi hx
    by_cases c : (j : Int) < n
    · obtain ⟨x, i', h', e, l, u, c'⟩ := byte_ok b hb i h hi
      obtain ⟨t, i2, h2, ht, c2, et⟩ := ih (j + 1) (acc ++ [x % 256]) i' h' (by omega) (by omega) (by simp; omega) c' (by
        intro y hy
        rcases List.mem_append.mp hy with hy | hy
        · exact hx y hy
        · rw [List.mem_singleton] at hy; omega)
      refine ⟨t, i2, h2, by simp at ht; omega, c2, fun K hK => ?_⟩
      obtain ⟨K, rfl⟩ := succ_of hK
      simp only [spec_l01Text.l0]
      rw [if_pos c, e, Option.bind_some, if_pos (show acc.length < 140737488355328 by omega), wr ((j : Int) + 1) (by omega) (by omega), show ((j : Int) + 1) = ((j + 1 : Nat) : Int) by omega]
      exact et K (by omega)
    · refine ⟨strOfNums acc, i, h, by rw [str_size acc]; omega, hi, fun K hK => ?_⟩
      obtain ⟨K, rfl⟩ := succ_of hK
      simp only [spec_l01Text.l0]
      rw [if_neg c]
theorem text_ok (b : List Int) (hb : b.length ≤ 1048576) (i h n : Int) (hi : curOk b i) (hn : 0 ≤ n) : ∃ t i' h', t.size ≤ 5000 ∧ (t.size : Int) ≤ n ∧ curOk b i' ∧ ∀ K, 6000 ≤ K → spec_l01Text.f K b i h n = some (t, i', h') := by
  by_cases c : n > 5000
  · obtain ⟨t, i', h', ht, c', e⟩ := text_l0 b hb 5000 5000 0 [] i h (by omega) (by omega) (by simp) hi (by simp)
    refine ⟨t, i', h', by simpa using ht, by simp at ht; omega, c', fun K hK => ?_⟩
    obtain ⟨K, rfl⟩ : ∃ m, K = m + 1 := ⟨K - 1, by omega⟩
    unfold spec_l01Text.f
    rw [if_pos c]
    simp only [spec_l01Text.j0]
    exact e K (by omega)
  · obtain ⟨m, rfl⟩ := Int.eq_ofNat_of_zero_le hn
    obtain ⟨t, i', h', ht, c', e⟩ := text_l0 b hb m m 0 [] i h (by omega) (by omega) (by simp; omega) hi (by simp)
    refine ⟨t, i', h', by simp at ht; omega, by simp at ht; omega, c', fun K hK => ?_⟩
    obtain ⟨K, rfl⟩ : ∃ m, K = m + 1 := ⟨K - 1, by omega⟩
    unfold spec_l01Text.f
    rw [if_neg c]
    simp only [spec_l01Text.j0]
    exact e K (by omega)

-- snippet sumdef
/-! the check sum -/
theorem xor32_range (a b : Int) : 0 ≤ Go.bits .xor .u32 a b ∧ Go.bits .xor .u32 a b < 4294967296 := by
  unfold Go.bits
  simp only [IntKind.wrap_u32]
  omega
theorem and1 (x : Int) (h0 : 0 ≤ x) (h1 : x < 4294967296) : Go.bits .and .u32 x 1 = x % 2 :=
  bits_mask .u32 32 (by decide) (fun n g0 g1 => by rw [IntKind.wrap_u32]; exact Int.emod_eq_of_lt g0 g1) 1 (by decide) x h0 h1
def sh (x : Int) : Int := if x % 2 = 1 then Go.bits .xor .u32 (x / 2) 3558460437 else x / 2
theorem sh_range (x : Int) (h : 0 ≤ x ∧ x < 4294967296) : 0 ≤ sh x ∧ sh x < 4294967296 := by
  unfold sh
  split
  · exact xor32_range _ _
  · omega
def step8 (x b : Int) : Int := sh (sh (sh (sh (sh (sh (sh (sh (Go.bits .xor .u32 x b))))))))
theorem step8_range (x b : Int) : 0 ≤ step8 x b ∧ step8 x b < 4294967296 := by
  unfold step8
  exact sh_range _ (sh_range _ (sh_range _ (sh_range _ (sh_range _ (sh_range _ (sh_range _ (sh_range _ (xor32_range _ _))))))))
def sumL (x : Int) (l : List Int) : Int := l.foldl step8 x
theorem sumL_range : ∀ (l : List Int) (x : Int), 0 ≤ x ∧ x < 4294967296 → 0 ≤ sumL x l ∧ sumL x l < 4294967296
  | [], x, h => h
  | b :: l, x, _ => sumL_range l (step8 x b) (step8_range x b)
theorem sumL_append (x : Int) (a b : List Int) : sumL x (a ++ b) = sumL (sumL x a) b := List.foldl_append
def fourL (n : Int) : List Int := [(n / 16777216) % 256, (n / 65536) % 256, (n / 256) % 256, n % 256]
theorem fourL_range (n : Int) : ∀ x ∈ fourL n, 0 ≤ x ∧ x < 256 := by
  intro x hx
  simp only [fourL, List.mem_cons, List.not_mem_nil, or_false] at hx
  rcases hx with rfl | rfl | rfl | rfl <;> omega
theorem fourL_inj (a b : Int) (ha : 0 ≤ a ∧ a < 4294967296) (hb : 0 ≤ b ∧ b < 4294967296) (h : fourL a = fourL b) : a = b := by
  simp only [fourL, List.cons.injEq, and_true] at h
  omega

-- snippet sumimpl
theorem impl_sum_l1 (K : Nat) (x : Int) (s : ByteArray) (i j : Int) (h : 0 ≤ x ∧ x < 4294967296) (h0 : 0 ≤ j) (hj : j < 8) : impl_SumMore.l1 (K + 1) x s i j = impl_SumMore.l1 K (sh x) s i (j + 1) := by
  simp only [impl_SumMore.l1]
  rw [if_pos hj, and1 x h.1 h.2, wr (j + 1) (by omega) (by omega)]
  unfold sh
  split <;> rfl
theorem impl_sum_l1_end (K : Nat) (x : Int) (s : ByteArray) (i : Int) : impl_SumMore.l1 (K + 1) x s i 8 = impl_SumMore.l0 K x s (wrap64 (i + 1)) := by
  simp only [impl_SumMore.l1]
  rw [if_neg (by omega)]
theorem impl_sum_byte (K i : Nat) (x : Int) (s : ByteArray) (hi : i < s.size) (hs : s.size < 140737488355328) : impl_SumMore.l0 (K + 10) x s i = impl_SumMore.l0 K (step8 x (bt s i)) s ((i + 1 : Nat) : Int) := by
  have e0 : impl_SumMore.l0 (K + 10) x s i = impl_SumMore.l1 (K + 9) (Go.bits .xor .u32 x (bt s i)) s i 0 := by
    have lo := bt_lo s i
    have hi2 := bt_hi s i
    have e : bt s i % 4294967296 = bt s i := by omega
    simp only [impl_SumMore.l0]
    rw [if_pos (by omega), if_pos (by omega), e]
  have r := xor32_range x (bt s i)
  rw [e0]
  have r1 := sh_range _ r
  have r2 := sh_range _ r1
  have r3 := sh_range _ r2
  have r4 := sh_range _ r3
  have r5 := sh_range _ r4
  have r6 := sh_range _ r5
  have r7 := sh_range _ r6
  rw [impl_sum_l1 (K + 8) _ s i 0 r (by decide) (by decide), impl_sum_l1 (K + 7) _ s i _ r1 (by decide) (by decide), impl_sum_l1 (K + 6) _ s i _ r2 (by decide) (by decide), impl_sum_l1 (K + 5) _ s i _ r3 (by decide) (by decide), impl_sum_l1 (K + 4) _ s i _ r4 (by decide) (by decide), impl_sum_l1 (K + 3) _ s i _ r5 (by decide) (by decide), impl_sum_l1 (K + 2) _ s i _ r6 (by decide) (by decide), impl_sum_l1 (K + 1) _ s i _ r7 (by decide) (by decide)]
  have e8 : (0 + 1 + 1 + 1 + 1 + 1 + 1 + 1 + 1 : Int) = 8 := by decide
  rw [e8, impl_sum_l1_end, wr _ (by omega) (by omega)]
  rfl
theorem impl_sum_l0 (s : ByteArray) (hs : s.size < 140737488355328) : ∀ (d K i : Nat) (x : Int), i + d = s.size → 10 * d + 1 ≤ K → impl_SumMore.l0 K x s i = some (sumL x ((bl s).drop i)) := by
  intro d
  induction d with
  | zero =>
    intro K i x h hK
    obtain ⟨K, rfl⟩ := succ_of hK
    simp only [impl_SumMore.l0]
    rw [if_neg (by omega), drop_end s i (by omega)]
    rfl
  | succ d ih =>
    intro K i x h hK
    obtain ⟨K, rfl⟩ : ∃ m, K = m + 10 := ⟨K - 10, by omega⟩
    rw [impl_sum_byte K i x s (by omega) hs, ih K (i + 1) _ (by omega) (by omega), drop_bt s i (by omega)]
    rfl
theorem impl_SumMore_f (K : Nat) (x : Int) (s : ByteArray) (hs : s.size < 140737488355328) (hK : 10 * s.size + 1 ≤ K) : impl_SumMore.f K x s = some (sumL x (bl s)) := by
  have := impl_sum_l0 s hs s.size K 0 x (by omega) hK
  unfold impl_SumMore.f
  simpa using this

-- snippet sumof_impl
theorem impl_SumOf_f (K : Nat) (s : ByteArray) (hs : s.size < 140737488355328) (hK : 10 * s.size + 1 ≤ K) : impl_SumOf.f K s = some (sumL 4294967295 (bl s)) := by
  unfold impl_SumOf.f
  rw [impl_SumMore_f K _ s hs hK]
  rfl

-- snippet byt
def Byt (l : List Int) : Prop := ∀ i, 0 ≤ l.getD i 0 ∧ l.getD i 0 < 256
theorem bys_str2 (xs : List Int) (h : Byt xs) : Sha.bys (strOfNums xs) = xs := by
  unfold Sha.bys
  rw [strOfNums_data, List.map_map]
  conv => rhs; rw [← List.map_id xs]
  refine List.map_congr_left fun x hx => ?_
  obtain ⟨i, hi, rfl⟩ := List.mem_iff_getElem.1 hx
  have := h i
  rw [List.getD_eq_getElem?_getD, List.getElem?_eq_getElem hi, Option.getD_some] at this
  show ((UInt8.ofNat (xs[i]).toNat).toNat : Int) = xs[i]
  rw [UInt8.toNat_ofNat']
  omega
theorem bt_bys2 (s : ByteArray) (i : Nat) : bt s (i : Int) = (Sha.bys s).getD i 0 := by
  unfold bt Sha.bys
  rw [Int.toNat_natCast]
  split
  · rename_i h
    rw [List.getD_eq_getElem?_getD, List.getElem?_map, List.getElem?_eq_getElem (by rw [Array.length_toList]; exact h)]
    rfl
  · rename_i h
    rw [List.getD_eq_getElem?_getD, List.getElem?_map, List.getElem?_eq_none (by rw [Array.length_toList]; exact Nat.le_of_not_lt h)]
    rfl
theorem byt_bys (s : ByteArray) : Byt (Sha.bys s) := fun i => by
  have := bt_range s (i : Int)
  rw [← bt_bys2]
  omega
theorem byt_set {l : List Int} (h : Byt l) {x : Int} (hx : 0 ≤ x ∧ x < 256) (k : Nat) : Byt (l.set k x) := fun i => by
  rw [List.getD_eq_getElem?_getD, List.getElem?_set]
  split
  · split
    · exact hx
    · exact ⟨by decide, by decide⟩
  · rw [← List.getD_eq_getElem?_getD]; exact h i
theorem x8_eq {x y : Int} (hx : 0 ≤ x ∧ x < 256) (hy : 0 ≤ y ∧ y < 256) : Go.bits .xor .u8 x y = ((x.toNat ^^^ y.toNat : Nat) : Int) := Go.u8_xor x y hx.1 hx.2 hy.1 hy.2
theorem x8_rg {x y : Int} (hx : 0 ≤ x ∧ x < 256) (hy : 0 ≤ y ∧ y < 256) : 0 ≤ Go.bits .xor .u8 x y ∧ Go.bits .xor .u8 x y < 256 := by
  rw [x8_eq hx hy]
  have : x.toNat ^^^ y.toNat < 2 ^ 8 := Nat.xor_lt_two_pow (by omega) (by omega)
  omega

theorem xor32_inj (x y c : Int) (hx : 0 ≤ x ∧ x < 4294967296) (hy : 0 ≤ y ∧ y < 4294967296) (hc : 0 ≤ c ∧ c < 4294967296) (h : Go.bits .xor .u32 x c = Go.bits .xor .u32 y c) : x = y := by
  rw [Go.u32_xor x c hx.1 hx.2 hc.1 hc.2, Go.u32_xor y c hy.1 hy.2 hc.1 hc.2] at h
  have h2 : x.toNat ^^^ c.toNat = y.toNat ^^^ c.toNat := by omega
  have h3 := congrArg (fun z => z ^^^ c.toNat) h2
  simp only [Nat.xor_assoc, Nat.xor_self, Nat.xor_zero] at h3
  omega
theorem xor32_comm (x c : Int) (hx : 0 ≤ x ∧ x < 4294967296) (hc : 0 ≤ c ∧ c < 4294967296) : Go.bits .xor .u32 x c = Go.bits .xor .u32 c x := by
  rw [Go.u32_xor x c hx.1 hx.2 hc.1 hc.2, Go.u32_xor c x hc.1 hc.2 hx.1 hx.2, Nat.xor_comm]
theorem poly_big (x : Int) (hx : 0 ≤ x ∧ x < 2147483648) : 2147483648 ≤ Go.bits .xor .u32 x 3558460437 := by
  rw [Go.u32_xor x 3558460437 hx.1 (by omega) (by decide) (by decide)]
  have ht : (x.toNat ^^^ (3558460437 : Int).toNat).testBit 31 = true := by
    rw [Nat.testBit_xor, Nat.testBit_lt_two_pow (show x.toNat < 2 ^ 31 by omega), show (3558460437 : Int).toNat = 3558460437 from rfl]
    decide
  have := Nat.ge_two_pow_of_testBit ht
  omega
theorem sh_inj (x y : Int) (hx : 0 ≤ x ∧ x < 4294967296) (hy : 0 ≤ y ∧ y < 4294967296) (h : sh x = sh y) : x = y := by
  unfold sh at h
  by_cases h1 : x % 2 = 1 <;> by_cases h2 : y % 2 = 1
  · rw [if_pos h1, if_pos h2] at h
    have := xor32_inj (x / 2) (y / 2) 3558460437 (by omega) (by omega) (by decide) h
    omega
  · rw [if_pos h1, if_neg h2] at h
    have := poly_big (x / 2) (by omega)
    omega
  · rw [if_neg h1, if_pos h2] at h
    have := poly_big (y / 2) (by omega)
    omega
  · rw [if_neg h1, if_neg h2] at h
    omega
theorem sh8_inj (x y : Int) (hx : 0 ≤ x ∧ x < 4294967296) (hy : 0 ≤ y ∧ y < 4294967296) (h : sh (sh (sh (sh (sh (sh (sh (sh x))))))) = sh (sh (sh (sh (sh (sh (sh (sh y)))))))) : x = y := by
  have a1 := sh_range _ hx
  have a2 := sh_range _ a1
  have a3 := sh_range _ a2
  have a4 := sh_range _ a3
  have a5 := sh_range _ a4
  have a6 := sh_range _ a5
  have a7 := sh_range _ a6
  have b1 := sh_range _ hy
  have b2 := sh_range _ b1
  have b3 := sh_range _ b2
  have b4 := sh_range _ b3
  have b5 := sh_range _ b4
  have b6 := sh_range _ b5
  have b7 := sh_range _ b6
  exact sh_inj _ _ hx hy (sh_inj _ _ a1 b1 (sh_inj _ _ a2 b2 (sh_inj _ _ a3 b3 (sh_inj _ _ a4 b4 (sh_inj _ _ a5 b5 (sh_inj _ _ a6 b6 (sh_inj _ _ a7 b7 h)))))))
theorem step8_inj (x y b : Int) (hx : 0 ≤ x ∧ x < 4294967296) (hy : 0 ≤ y ∧ y < 4294967296) (hb : 0 ≤ b ∧ b < 256) (h : step8 x b = step8 y b) : x = y := by
  unfold step8 at h
  exact xor32_inj x y b hx hy (by omega) (sh8_inj _ _ (xor32_range _ _) (xor32_range _ _) h)
theorem step8_byte (x b c : Int) (hx : 0 ≤ x ∧ x < 4294967296) (hb : 0 ≤ b ∧ b < 256) (hc : 0 ≤ c ∧ c < 256) (h : step8 x b = step8 x c) : b = c := by
  unfold step8 at h
  have h2 := sh8_inj _ _ (xor32_range _ _) (xor32_range _ _) h
  rw [xor32_comm x b hx (by omega), xor32_comm x c hx (by omega)] at h2
  exact xor32_inj b c x (by omega) (by omega) hx h2
theorem sumL_inj : ∀ (l : List Int) (x y : Int), (∀ b ∈ l, 0 ≤ b ∧ b < 256) → 0 ≤ x ∧ x < 4294967296 → 0 ≤ y ∧ y < 4294967296 → sumL x l = sumL y l → x = y
  | [], x, y, _, _, _, h => h
  | b :: l, x, y, hl, hx, hy, h => step8_inj x y b hx hy (hl b (List.mem_cons_self ..)) (sumL_inj l _ _ (fun c hc => hl c (List.mem_cons_of_mem _ hc)) (step8_range _ _) (step8_range _ _) h)
theorem sumL_ne : ∀ (l : List Int) (x : Int) (j : Nat) (v : Int), (∀ b ∈ l, 0 ≤ b ∧ b < 256) → 0 ≤ x ∧ x < 4294967296 → 0 ≤ v ∧ v < 256 → j < l.length → l.getD j 0 ≠ v → sumL x (l.set j v) ≠ sumL x l
  | [], _, _, _, _, _, _, hj, _ => by simp at hj
  | b :: l, x, 0, v, hl, hx, hv, _, hne => fun h => by
    have hb := hl b (List.mem_cons_self ..)
    have := sumL_inj l (step8 x v) (step8 x b) (fun c hc => hl c (List.mem_cons_of_mem _ hc)) (step8_range _ _) (step8_range _ _) h
    exact hne (step8_byte x b v hx hb hv this.symm)
  | b :: l, x, j + 1, v, hl, hx, hv, hj, hne => sumL_ne l (step8 x b) j v (fun c hc => hl c (List.mem_cons_of_mem _ hc)) (step8_range _ _) hv (by simpa using hj) (by simpa using hne)
theorem bys_bl (s : ByteArray) : Sha.bys s = bl s := rfl
theorem four_f (a : Int) : impl_fourBytes.f a = some (strOfNums (fourL a)) := rfl
theorem four_bl (a : Int) : bl (strOfNums (fourL a)) = fourL a := bl_str _ (fourL_range a)
/-- Unsealed, of a text that is given by its bytes: n bytes and four more. -/
theorem unsealed_l (K n : Nat) (t : ByteArray) (hn : n ≤ 1000) (ht : t.size = n + 4) (hK : 20000 ≤ K) : impl_Unsealed.f K t = if (bl t).drop n = fourL (sumL 4294967295 ((bl t).take n)) then some (t.extract 0 n, true) else some (⟨#[]⟩, false) := by
  have hz : (t.extract 0 n).size = n := by rw [ByteArray.size_extract]; omega
  have e1 : bl (t.extract 0 n) = (bl t).take n := by rw [bl_extract]; simp
  have e2 : bl (t.extract n (n + 4)) = (bl t).drop n := by
    rw [bl_extract, List.take_of_length_le]
    rw [List.length_drop, bl_len]
    omega
  have hw : wrap64 (((n + 4 : Nat) : Int) - 4) = (n : Int) := by unfold wrap64; omega
  unfold impl_Unsealed.f
  rw [ht, hw, if_neg (by omega), if_neg (by omega), if_pos (by omega), if_pos (by omega), Int.toNat_natCast, impl_SumOf_f K _ (by omega) (by omega), Option.bind_some, four_f, Option.bind_some, e1]
  by_cases h : (bl t).drop n = fourL (sumL 4294967295 ((bl t).take n))
  · rw [if_pos h, if_pos (toList_bl.2 (by rw [e2, four_bl]; exact h))]
  · rw [if_neg h, if_neg (fun h2 => h (by have := toList_bl.1 h2; rw [e2, four_bl] at this; exact this))]
theorem sum_draw (b : List Int) (hb : b.length ≤ 1048576) : ∃ s : ByteArray, s.size ≤ 40 ∧ ∀ K, 6000 ≤ K → spec_DrawSumOf.f K b = some s := by
  obtain ⟨h0, e0⟩ := new_ok b hb
  obtain ⟨n, i1, h1, e1, l1, u1, c1⟩ := below_ok b hb 0 h0 40 ⟨by omega, by omega⟩ (by decide)
  obtain ⟨s, i2, h2, z2, z3, c2, e2⟩ := text_ok b hb i1 h1 n c1 l1
  refine ⟨s, by omega, fun K hK => ?_⟩
  unfold spec_DrawSumOf.f
  rw [e0 K (by omega), Option.bind_some]
  simp only
  rw [e1, Option.bind_some]
  simp only
  rw [e2 K hK, Option.bind_some]
theorem turn_m (p1 : Int) (h : 0 ≤ p1) : ∃ m : Int, (wrap64 (1 + Int.tmod p1 255)) % 256 = m ∧ 1 ≤ m ∧ m < 256 := by
  have m0 : 0 ≤ Int.tmod p1 255 := Int.tmod_nonneg _ h
  have m1 : Int.tmod p1 255 < 255 := Int.tmod_lt_of_pos _ (by decide)
  refine ⟨_, rfl, ?_⟩
  generalize Int.tmod p1 255 = q at m0 m1
  unfold wrap64
  omega
theorem turn_j (p0 : Int) (n : Nat) (h : 0 ≤ p0) (hn : 0 < n) : ∃ j : Nat, Int.tmod p0 (n : Int) = (j : Int) ∧ j < n := by
  have q0 : 0 ≤ Int.tmod p0 n := Int.tmod_nonneg _ h
  have q1 : Int.tmod p0 n < n := Int.tmod_lt_of_pos _ (by omega)
  obtain ⟨j, hj⟩ := Int.eq_ofNat_of_zero_le q0
  rw [hj] at q1
  exact ⟨j, hj, by omega⟩
theorem x8_ne (z m : Int) (hz : 0 ≤ z ∧ z < 256) (hm : 1 ≤ m ∧ m < 256) : z ≠ Go.bits .xor .u8 z m := by
  intro e
  rw [x8_eq hz (by omega)] at e
  have h1 : z.toNat ^^^ m.toNat = z.toNat := by omega
  have h2 := congrArg (fun q => z.toNat ^^^ q) h1
  rw [← Nat.xor_assoc, Nat.xor_self, Nat.zero_xor] at h2
  omega
theorem FnTurned : laws_FnTurned.Pure := by
  intro l0 hl hl2 hx
  by_cases big : (l0.length : Int) > 1048576
  · exact ⟨0, .inl (congrArg some (decide_eq_true big))⟩
  · obtain ⟨s, hs, es⟩ := sum_draw l0 (by omega)
    obtain ⟨p, pl, px, ep⟩ := places_ok l0 (by omega)
    have hp : ∀ i : Nat, i < 12 → 0 ≤ p.getD i 0 ∧ p.getD i 0 < 10000 := by
      intro i hi
      rw [List.getD_eq_getElem?_getD, List.getElem?_eq_getElem (show i < p.length by omega), Option.getD_some]
      exact px _ (List.getElem_mem _)
    obtain ⟨K, hK⟩ : ∃ K, 20000 ≤ K := ⟨20000, Nat.le_refl _⟩
    obtain ⟨a, ha⟩ : ∃ a, sumL 4294967295 (bl s) = a := ⟨_, rfl⟩
    have har : 0 ≤ a ∧ a < 4294967296 := by rw [← ha]; exact sumL_range _ _ (by decide)
    have h4z : (strOfNums (fourL a)).size = 4 := by rw [str_size]; rfl
    have htz : (s ++ strOfNums (fourL a)).size = s.size + 4 := by rw [ByteArray.size_append, h4z]
    have htb : bl (s ++ strOfNums (fourL a)) = bl s ++ fourL a := by rw [bl_append, four_bl]
    have h8 : impl_SumOf.f K s = some a := by rw [impl_SumOf_f K s (by omega) (by omega), ha]
    have h5 : impl_Sealed.f K s = some (s ++ strOfNums (fourL a), true) := by
      unfold impl_Sealed.f
      rw [if_neg (by omega), h8, Option.bind_some, four_f, Option.bind_some, if_pos (by omega)]
    obtain ⟨t, ht⟩ : ∃ t, s ++ strOfNums (fourL a) = t := ⟨_, rfl⟩
    rw [ht] at htz htb h5
    have hsl : (bl s).length = s.size := bl_len s
    have h6 : impl_Unsealed.f K t = some (s, true) := by
      rw [unsealed_l K s.size t (by omega) htz hK, htb, ← hsl, List.drop_left, List.take_left, ha, if_pos rfl]
      congr 2
      apply bl_inj
      rw [bl_extract, htb]
      simp
    obtain ⟨m, hm, hm1, hm2⟩ := turn_m (p.getD 1 0) (hp 1 (by decide)).1
    obtain ⟨j, hj, hjt⟩ := turn_j (p.getD 0 0) t.size (hp 0 (by decide)).1 (by omega)
    obtain ⟨z, hz⟩ : ∃ z, (Sha.bys t).getD j 0 = z := ⟨_, rfl⟩
    have hzr : 0 ≤ z ∧ z < 256 := by rw [← hz]; exact byt_bys t j
    have hvr := x8_rg hzr (show 0 ≤ m ∧ m < 256 by omega)
    have hne := x8_ne z m hzr ⟨hm1, hm2⟩
    obtain ⟨v, hv⟩ : ∃ v, Go.bits .xor .u8 z m = v := ⟨_, rfl⟩
    rw [hv] at hvr hne
    have hbb : Byt ((Sha.bys t).set j v) := byt_set (byt_bys t) hvr j
    obtain ⟨u, hu⟩ : ∃ u, strOfNums ((Sha.bys t).set j v) = u := ⟨_, rfl⟩
    have hub : bl u = (bl s ++ fourL a).set j v := by
      rw [← hu, ← bys_bl, bys_str2 _ hbb, bys_bl, htb]
    have huz : u.size = s.size + 4 := by rw [← hu, str_size, List.length_set, Sha.bys_len, htz]
    have hz2 : (bl s ++ fourL a).getD j 0 = z := by rw [← htb]; exact hz
    have h7 : impl_Unsealed.f K u = some (⟨#[]⟩, false) := by
      rw [unsealed_l K s.size u (by omega) huz hK, hub, if_neg]
      intro h
      by_cases hjs : j < (bl s).length
      · rw [List.set_append_left _ _ hjs, ← hsl, show (bl s).length = ((bl s).set j v).length by rw [List.length_set], List.drop_left, List.take_left] at h
        have e := fourL_inj _ _ har (sumL_range _ _ (by decide)) h
        rw [← ha] at e
        rw [List.getD_eq_getElem?_getD, List.getElem?_append_left hjs, ← List.getD_eq_getElem?_getD] at hz2
        exact sumL_ne (bl s) 4294967295 j v (bl_range s) (by decide) hvr hjs (by rw [hz2]; exact hne) e.symm
      · have hjl : (bl s).length ≤ j := Nat.le_of_not_lt hjs
        rw [List.set_append_right _ _ hjl, ← hsl, List.drop_left, List.take_left, ha] at h
        rw [List.getD_eq_getElem?_getD, List.getElem?_append_right hjl] at hz2
        have hjk : j - (bl s).length < (fourL a).length := by show _ < 4; omega
        have h2 := congrArg (fun l => l.getD (j - (bl s).length) 0) h
        rw [List.getD_eq_getElem?_getD, List.getElem?_set_self hjk, Option.getD_some, List.getD_eq_getElem?_getD, hz2] at h2
        exact hne h2.symm
    have hx1 : (⟨#[120]⟩ : ByteArray).size = 1 := rfl
    have h9 : impl_SumMore.f K a ⟨#[120]⟩ = some (sumL a (bl ⟨#[120]⟩)) := impl_SumMore_f K a _ (by omega) (by omega)
    have hsx : (s ++ (⟨#[120]⟩ : ByteArray)).size = s.size + 1 := by rw [ByteArray.size_append, hx1]
    have h10 : impl_SumOf.f K (s ++ ⟨#[120]⟩) = some (sumL a (bl ⟨#[120]⟩)) := by
      rw [impl_SumOf_f K _ (by omega) (by omega), bl_append, sumL_append, ha]
    refine ⟨K, .inr ⟨congrArg some (decide_eq_false big), s, t, ⟨#[]⟩, p, p.getD 0 0, p.getD 1 0, a, _, j, m, z, es K (by omega), ep K (by omega), h5, h6, htz, by omega, by omega, rfl, rfl, hj, hjt, hm, hz, ?_, h8, h9, h10⟩⟩
    rw [hv, hu]
    exact h7

end Go.Proofs.Ytkfggpcljndnoaa.Pure
