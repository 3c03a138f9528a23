/- Of every draw: a number that is written is read as it was written, in each of the forms. -/
import Derived.Test.YtkdmmaeblknlnaaDoorPFnNumbersx4
import Derived.Lib.ItoaMem
set_option linter.unusedVariables false
set_option linter.unusedSimpArgs false
namespace Go.Proofs.YtkdmmaeblknlnaaDoor.Pure
open Go.RowKit Go.Proofs.YtkdmmaeblknlnaaDoor.PFnNumbers Go.Proofs.YtkdmmaeblknlnaaDoorW.PrintWords Go.Proofs.YtkdmmaeblknlnaaDoorW.PrintLast Go.Proofs.YtkdmmaeblknlnaaDoorW.PrintMore

-- snippet plain
/-! bytes as numbers -/
def bl (s : ByteArray) : List Int := s.data.toList.map fun b => (b.toNat : Int)
theorem bl_len (s : ByteArray) : (bl s).length = s.size := by unfold bl; rw [List.length_map, Array.length_toList]; rfl
theorem map_u8_inj : ∀ {a b : List UInt8}, a.map (fun b => (b.toNat : Int)) = b.map (fun b => (b.toNat : Int)) → a = b
  | [], [], _ => rfl
  | [], _ :: _, h => by simp at h
  | _ :: _, [], h => by simp at h
  | x :: a, y :: b, h => by
    simp only [List.map_cons, List.cons.injEq] at h
    have e : x = y := UInt8.toNat_inj.mp (by omega)
    rw [e, map_u8_inj h.2]
theorem bl_inj {s t : ByteArray} (h : bl s = bl t) : s = t := by
  have := map_u8_inj h
  cases s; cases t
  simp only [ByteArray.mk.injEq] at *
  exact Array.toList_inj.mp this
theorem bl_eq {s t : ByteArray} : s = t ↔ bl s = bl t := ⟨fun h => by rw [h], bl_inj⟩
theorem toList_bl {s t : ByteArray} : s.toList = t.toList ↔ bl s = bl t := by
  rw [ByteArray.toList_eq, ByteArray.toList_eq]
  exact ⟨fun h => by unfold bl; rw [h], fun h => by rw [bl_inj h]⟩
theorem bl_range (s : ByteArray) : ∀ x ∈ bl s, 0 ≤ x ∧ x < 256 := by
  intro x hx
  simp only [bl, List.mem_map] at hx
  obtain ⟨b, _, rfl⟩ := hx
  have := b.toNat_lt
  omega
theorem bt_bl (s : ByteArray) (i : Int) : bt s i = (bl s).getD i.toNat 0 := by
  unfold bt bl
  split
  · rename_i h
    have h' : i.toNat < s.data.toList.length := by rw [Array.length_toList]; exact h
    rw [List.getD_eq_getElem?_getD, List.getElem?_map, List.getElem?_eq_getElem h']
    rfl
  · rename_i h
    have h' : s.data.toList.length ≤ i.toNat := by rw [Array.length_toList]; exact Nat.le_of_not_lt h
    rw [List.getD_eq_getElem?_getD, List.getElem?_map, List.getElem?_eq_none h']
    rfl
theorem bl_append (s t : ByteArray) : bl (s ++ t) = bl s ++ bl t := by simp [bl]
theorem bl_extract (s : ByteArray) (a b : Nat) : bl (s.extract a b) = ((bl s).drop a).take (b - a) := by
  simp [bl, List.map_take, List.map_drop]
theorem u8_ofNat (n : Int) (h : 0 ≤ n ∧ n < 256) : ((UInt8.ofNat n.toNat).toNat : Int) = n := by
  rw [UInt8.toNat_ofNat']
  omega
theorem bl_str (xs : List Int) (h : ∀ x ∈ xs, 0 ≤ x ∧ x < 256) : bl (strOfNums xs) = xs := by
  unfold bl
  rw [strOfNums_data, List.map_map]
  conv => rhs; rw [← List.map_id xs]
  exact List.map_congr_left fun x hx => u8_ofNat x (h x hx)
theorem str_bl (s : ByteArray) : strOfNums (bl s) = s := bl_inj (bl_str _ (bl_range s))
theorem str_size (xs : List Int) : (strOfNums xs).size = xs.length := strOfNums_size xs
theorem bl_nil : bl (⟨#[]⟩ : ByteArray) = [] := rfl
theorem bt_lo (s : ByteArray) (i : Int) : 0 ≤ bt s i := (bt_range s i).1
theorem bt_hi (s : ByteArray) (i : Int) : bt s i < 256 := by have := (bt_range s i).2; omega
theorem wr (n : Int) (h : -9223372036854775808 ≤ n) (h' : n ≤ 9223372036854775807) : wrap64 n = n := by unfold wrap64; omega
theorem wrn {z : Int} (n : Nat) (e : z = n) (h : n ≤ 9223372036854775807) : wrap64 z = n := by rw [e]; exact wr _ (by omega) (by omega)
theorem tdiv_pos (a b : Int) (h : 0 ≤ a) : Int.tdiv a b = a / b := Int.tdiv_eq_ediv_of_nonneg h
theorem tmod_pos (a b : Int) (h : 0 ≤ a) : Int.tmod a b = a % b := Int.tmod_eq_emod_of_nonneg h
theorem succ_of {k d : Nat} (h : d < k) : ∃ m, k = m + 1 := ⟨k - 1, by omega⟩
theorem drop_bt (s : ByteArray) (i : Nat) (h : i < s.size) : (bl s).drop i = bt s i :: (bl s).drop (i + 1) := by
  have h' : i < (bl s).length := by rw [bl_len]; exact h
  rw [List.drop_eq_getElem_cons h', bt_bl, Int.toNat_natCast, List.getD_eq_getElem?_getD, List.getElem?_eq_getElem h']
  rfl
theorem drop_end (s : ByteArray) (i : Nat) (h : s.size ≤ i) : (bl s).drop i = [] := List.drop_eq_nil_of_le (by rw [bl_len]; exact h)
theorem take_snoc_cons {α : Type} (p : List α) (b : α) (l : List α) : (p ++ b :: l).take (p.length + 1) = p ++ [b] := by
  rw [List.take_length_add_append]; simp
attribute [local irreducible] bt

-- snippet draw
/-! draws -/
theorem mask_range (x : Int) : 0 ≤ Go.bits .and .i64 x 255 ∧ Go.bits .and .i64 x 255 ≤ 255 := by
  unfold Go.bits
  have h : (BitVec.ofInt IntKind.i64.bits x &&& BitVec.ofInt IntKind.i64.bits 255).toNat ≤ 255 := by
    rw [BitVec.toNat_and]
    exact Nat.le_trans Nat.and_le_right (by decide)
  simp only [IntKind.wrap_i64]
  generalize (BitVec.ofInt IntKind.i64.bits x &&& BitVec.ofInt IntKind.i64.bits 255).toNat = n at h
  omega
def curOk (b : List Int) (i : Int) : Prop := 0 ≤ i ∧ i ≤ b.length
theorem byte_ok (b : List Int) (hb : b.length ≤ 1048576) (i h : Int) (hi : curOk b i) : ∃ x i' h', spec_l01Byte.f b i h = some (x, i', h') ∧ 0 ≤ x ∧ x ≤ 255 ∧ curOk b i' := by
  obtain ⟨h0, h1⟩ := hi
  unfold spec_l01Byte.f
  by_cases c : i < (b.length : Int)
  · rw [if_pos c, if_pos h0, wr (i + 1) (by omega) (by omega)]
    exact ⟨_, _, _, rfl, (mask_range _).1, (mask_range _).2, by unfold curOk; omega⟩
  · rw [if_neg c]
    exact ⟨_, _, _, rfl, (mask_range _).1, (mask_range _).2, ⟨h0, h1⟩⟩
theorem below_ok (b : List Int) (hb : b.length ≤ 1048576) (i h n : Int) (hi : curOk b i) (hn : 0 < n) : ∃ x i' h', spec_l01Below.f b i h n = some (x, i', h') ∧ 0 ≤ x ∧ x < n ∧ curOk b i' := by
  unfold spec_l01Below.f
  rw [if_neg (show ¬ n ≤ 0 by omega)]
  obtain ⟨x1, i1, h1, e1, l1, u1, c1⟩ := byte_ok b hb i h hi
  by_cases c : n ≤ 256
  · rw [if_pos c, e1, Option.bind_some, if_neg (show ¬ n = 0 by omega)]
    exact ⟨_, _, _, rfl, Int.tmod_nonneg _ l1, Int.tmod_lt_of_pos _ hn, c1⟩
  · obtain ⟨x2, i2, h2, e2, l2, u2, c2⟩ := byte_ok b hb i1 h1 c1
    obtain ⟨x3, i3, h3, e3, l3, u3, c3⟩ := byte_ok b hb i2 h2 c2
    obtain ⟨x4, i4, h4, e4, l4, u4, c4⟩ := byte_ok b hb i3 h3 c3
    rw [if_neg c, e1, Option.bind_some]
    simp only
    rw [e2, Option.bind_some]
    simp only
    rw [e3, Option.bind_some]
    simp only
    rw [e4, Option.bind_some]
    simp only
    rw [if_neg (show ¬ n = 0 by omega), wr (x1 * 16777216) (by omega) (by omega), wr (x2 * 65536) (by omega) (by omega), wr (x3 * 256) (by omega) (by omega), wr (x1 * 16777216 + x2 * 65536) (by omega) (by omega), wr (x1 * 16777216 + x2 * 65536 + x3 * 256) (by omega) (by omega), wr (x1 * 16777216 + x2 * 65536 + x3 * 256 + x4) (by omega) (by omega)]
    exact ⟨_, _, _, rfl, Int.tmod_nonneg _ (by omega), Int.tmod_lt_of_pos _ hn, c4⟩
theorem new_l0 (b : List Int) (hb : b.length ≤ 1048576) : ∀ (d : Nat) (i : Nat) (h : Int), i + d = 4000 → ∃ h', ∀ K, d < K → spec_l01New.l0 K b h i = some (b, 0, h') := by
  intro d
  induction d with
  | zero =>
    intro i h hi
    refine ⟨h, fun K hK => ?_⟩
    obtain ⟨K, rfl⟩ := succ_of hK
    simp only [spec_l01New.l0]
    by_cases c : (i : Int) < (b.length : Int)
    · rw [if_pos c, if_neg (show ¬ (i : Int) < 4000 by omega)]
    · rw [if_neg c]
  | succ d ih =>
    intro i h hi
    by_cases c : (i : Int) < (b.length : Int)
    · obtain ⟨h', e⟩ := ih (i + 1) (Go.bits .and .i64 (wrap64 ((wrap64 ((wrap64 (h * 131)) + (wrap64 (rd b i)))) + 7)) 1073741823) (by omega)
      refine ⟨h', fun K hK => ?_⟩
      obtain ⟨K, rfl⟩ := succ_of hK
      simp only [spec_l01New.l0]
      rw [if_pos c, if_pos (show (i : Int) < 4000 by omega), if_pos (show 0 ≤ (i : Int) by omega), wr ((i : Int) + 1) (by omega) (by omega), show ((i : Int) + 1) = ((i + 1 : Nat) : Int) by omega]
      exact e K (by omega)
    · refine ⟨h, fun K hK => ?_⟩
      obtain ⟨K, rfl⟩ := succ_of hK
      simp only [spec_l01New.l0]
      rw [if_neg c]
theorem new_ok (b : List Int) (hb : b.length ≤ 1048576) : ∃ h', ∀ K, 4001 ≤ K → spec_l01New.f K b = some (b, 0, h') := by
  obtain ⟨h', e⟩ := new_l0 b hb 4000 0 (wrap64 (27401 + (b.length : Int))) (by omega)
  exact ⟨h', fun K hK => e K (by omega)⟩

-- snippet drawtext
theorem text_l0 (b : List Int) (hb : b.length ≤ 1048576) (n : Int) : ∀ (d : Nat) (j : Nat) (acc : List Int) (i h : Int), (n : Int) ≤ j + d → j + d ≤ 5000 → acc.length + d ≤ 5000 → curOk b i → (∀ x ∈ acc, 0 ≤ x ∧ x < 256) → ∃ t i' h', t.size ≤ acc.length + d ∧ curOk b i' ∧ ∀ K, d < K → spec_l01Text.l0 K n acc j b i h = some (t, i', h') := by
  intro d
  induction d with
  | zero =>
    intro j acc i h hn hj hl hi hx
    refine ⟨strOfNums acc, i, h, by rw [str_size acc]; omega, hi, fun K hK => ?_⟩
    obtain ⟨K, rfl⟩ := succ_of hK
    simp only [spec_l01Text.l0]
    rw [if_neg (show ¬ (j : Int) < n by omega)]
  | succ d ih =>
    intro j acc i h hn hj hl hi hx
    by_cases c : (j : Int) < n
    · obtain ⟨x, i', h', e, l, u, c'⟩ := byte_ok b hb i h hi
      obtain ⟨t, i2, h2, ht, c2, et⟩ := ih (j + 1) (acc ++ [x % 256]) i' h' (by omega) (by omega) (by simp; omega) c' (by
        intro y hy
        rcases List.mem_append.mp hy with hy | hy
        · exact hx y hy
        · rw [List.mem_singleton] at hy; omega)
      refine ⟨t, i2, h2, by simp at ht; omega, c2, fun K hK => ?_⟩
      obtain ⟨K, rfl⟩ := succ_of hK
      simp only [spec_l01Text.l0]
      rw [if_pos c, e, Option.bind_some, if_pos (show acc.length < 140737488355328 by omega), wr ((j : Int) + 1) (by omega) (by omega), show ((j : Int) + 1) = ((j + 1 : Nat) : Int) by omega]
      exact et K (by omega)
    · refine ⟨strOfNums acc, i, h, by rw [str_size acc]; omega, hi, fun K hK => ?_⟩
      obtain ⟨K, rfl⟩ := succ_of hK
      simp only [spec_l01Text.l0]
      rw [if_neg c]
theorem text_ok (b : List Int) (hb : b.length ≤ 1048576) (i h n : Int) (hi : curOk b i) (hn : 0 ≤ n) : ∃ t i' h', t.size ≤ 5000 ∧ (t.size : Int) ≤ n ∧ curOk b i' ∧ ∀ K, 6000 ≤ K → spec_l01Text.f K b i h n = some (t, i', h') := by
  by_cases c : n > 5000
  · obtain ⟨t, i', h', ht, c', e⟩ := text_l0 b hb 5000 5000 0 [] i h (by omega) (by omega) (by simp) hi (by simp)
    refine ⟨t, i', h', by simpa using ht, by simp at ht; omega, c', fun K hK => ?_⟩
    obtain ⟨K, rfl⟩ : ∃ m, K = m + 1 := ⟨K - 1, by omega⟩
    unfold spec_l01Text.f
    rw [if_pos c]
    simp only [spec_l01Text.j0]
    exact e K (by omega)
  · obtain ⟨m, rfl⟩ := Int.eq_ofNat_of_zero_le hn
    obtain ⟨t, i', h', ht, c', e⟩ := text_l0 b hb m m 0 [] i h (by omega) (by omega) (by simp; omega) hi (by simp)
    refine ⟨t, i', h', by simp at ht; omega, by simp at ht; omega, c', fun K hK => ?_⟩
    obtain ⟨K, rfl⟩ : ∃ m, K = m + 1 := ⟨K - 1, by omega⟩
    unfold spec_l01Text.f
    rw [if_neg c]
    simp only [spec_l01Text.j0]
    exact e K (by omega)
theorem once_ok (b : List Int) (hb : b.length ≤ 1048576) (i h n : Int) (hi : curOk b i) (hn : 0 < n) : ∃ x i' h', spec_l01Once.f b i h n = some (x, i', h') ∧ curOk b i' := by
  obtain ⟨x, i', h', e, _, _, c⟩ := below_ok b hb i h n hi hn
  unfold spec_l01Once.f
  rw [e]
  exact ⟨_, _, _, rfl, c⟩

-- snippet drawlong
theorem long_l0 (n x : Int) : ∀ (d j K : Nat) (l : List Int), (n : Int) = j + d → j + d < 1000000000 → d < K → l.length = j + d → spec_l01Long.l0 K n x l j = some (strOfNums (l.take j ++ List.replicate d x)) := by
  intro d
  induction d with
  | zero =>
    intro j K l hn hj hK hl
    obtain ⟨K, rfl⟩ := succ_of hK
    simp only [spec_l01Long.l0]
    rw [if_neg (show ¬ (j : Int) < n by omega), List.take_of_length_le (by omega)]
    simp
  | succ d ih =>
    intro j K l hn hj hK hl
    obtain ⟨K, rfl⟩ := succ_of hK
    simp only [spec_l01Long.l0]
    rw [if_pos (show (j : Int) < n by omega), if_pos (show 0 ≤ (j : Int) by omega), if_pos (show (j : Int) < (l.length : Int) by omega), wr ((j : Int) + 1) (by omega) (by omega), show ((j : Int) + 1) = ((j + 1 : Nat) : Int) by omega, Int.toNat_natCast, ih (j + 1) K _ (by omega) (by omega) (by omega) (by simp; omega)]
    congr 2
    rw [List.take_set, List.replicate_succ]
    have : (l.take (j + 1)).set j x = l.take j ++ [x] := by
      rw [List.take_succ_eq_append_getElem (show j < l.length by omega), List.set_append_right _ _ (by simp; omega)]
      simp [show min j l.length = j by omega]
    rw [this]
    simp
theorem long_ok (n x : Int) (h0 : 0 ≤ n) (h1 : n < 1000000000) (K : Nat) (hK : n < K) : spec_l01Long.f K n x = some (strOfNums (List.replicate n.toNat x)) := by
  obtain ⟨m, rfl⟩ := Int.eq_ofNat_of_zero_le h0
  unfold spec_l01Long.f
  rw [if_pos h0, if_pos (by simp; omega)]
  have := long_l0 m x m 0 K (List.replicate m 0) (by omega) (by omega) (by omega) (by simp)
  simpa using this

-- snippet drawhex
theorem drawhex_ok (b : List Int) (hb : b.length ≤ 1048576) : ∃ t, t.size ≤ 20001 ∧ ∀ K, 30000 ≤ K → spec_DrawHex.f K b = some t := by
  obtain ⟨h, e⟩ := new_ok b hb
  obtain ⟨x, i1, h1, e1, c1⟩ := once_ok b hb 0 h 60 ⟨by omega, by omega⟩ (by decide)
  cases x with
  | true =>
    obtain ⟨y, i2, h2, e2, l2, u2, c2⟩ := below_ok b hb i1 h1 2 c1 (by decide)
    have w : wrap64 (20000 + y) = 20000 + y := wr _ (by omega) (by omega)
    refine ⟨strOfNums (List.replicate (20000 + y).toNat 200), by rw [str_size]; simp; omega, fun K hK => ?_⟩
    unfold spec_DrawHex.f
    rw [e K (by omega), Option.bind_some]
    simp only
    rw [e1, Option.bind_some]
    simp only [if_true]
    rw [e2, Option.bind_some]
    simp only
    rw [w, long_ok _ _ (by omega) (by omega) K (by omega)]
    rfl
  | false =>
    obtain ⟨y, i2, h2, e2, l2, u2, c2⟩ := below_ok b hb i1 h1 30 c1 (by decide)
    obtain ⟨t, i3, h3, ht, _, c3, e3⟩ := text_ok b hb i2 h2 y c2 l2
    refine ⟨t, by omega, fun K hK => ?_⟩
    unfold spec_DrawHex.f
    rw [e K (by omega), Option.bind_some]
    simp only
    rw [e1, Option.bind_some]
    simp only [Bool.false_eq_true, if_false]
    rw [e2, Option.bind_some]
    simp only
    rw [e3 K (by omega)]
    rfl

-- snippet varp
/-! VarText -/
def varL (n : Nat) : List Int := if 127 < n then ((n % 128 + 128 : Nat) : Int) :: varL (n / 128) else [(n : Int)]
termination_by n
decreasing_by omega
theorem varL_range : ∀ (d n : Nat), n < d → ∀ x ∈ varL n, 0 ≤ x ∧ x < 256 := by
  intro d
  induction d with
  | zero => intro n h; omega
  | succ d ih =>
    intro n h x hx
    rw [varL] at hx
    split at hx
    · rcases List.mem_cons.mp hx with rfl | hx
      · omega
      · exact ih _ (by omega) x hx
    · rw [List.mem_singleton] at hx
      omega
theorem bl_var (n : Nat) : bl (strOfNums (varL n)) = varL n := bl_str _ (varL_range (n + 1) n (by omega))
theorem varL_len : ∀ (d n : Nat), n < d → 1 ≤ (varL n).length ∧ (varL n).length ≤ n + 1 := by
  intro d
  induction d with
  | zero => intro n h; omega
  | succ d ih =>
    intro n h
    rw [varL]
    split
    · have := ih (n / 128) (by omega)
      simp only [List.length_cons]
      omega
    · simp

-- snippet varimpl
theorem impl_var : ∀ (d k n : Nat) (xs : List Int), n < d → d ≤ k → n < 4611686018427387904 → xs.length + d < 140737488355328 → impl_varText.l0 k n xs = some (strOfNums (xs ++ varL n)) := by
  intro d
  induction d with
  | zero => intro k n xs h; omega
  | succ d ih =>
    intro k n xs h hk hn hl
    obtain ⟨k, rfl⟩ := succ_of hk
    simp only [impl_varText.l0]
    by_cases c : 127 < n
    · rw [if_pos (by omega), if_pos (by omega)]
      have e1 : wrap64 (Int.tdiv (n : Int) 128) = ((n / 128 : Nat) : Int) := by rw [tdiv_pos _ _ (by omega), wr _ (by omega) (by omega)]; omega
      have e2 : (wrap64 (128 + Int.tmod (n : Int) 128)) % 256 = ((n % 128 + 128 : Nat) : Int) := by rw [tmod_pos _ _ (by omega), wr _ (by omega) (by omega)]; omega
      rw [e1, e2, ih k (n / 128) _ (by omega) (by omega) (by omega) (by simp; omega)]
      conv => rhs; rw [varL, if_pos c]
      simp
    · rw [if_neg (by omega), if_pos (by omega), varL, if_neg c]
      have : (n : Int) % 256 = n := by omega
      rw [this]
theorem impl_var_f (k : Nat) (n : Int) (h0 : 0 ≤ n) (h1 : n ≤ 1000000000) (hk : 1000000001 ≤ k) : impl_varText.f k n = some (strOfNums (varL n.toNat)) := by
  have := impl_var 1000000001 k n.toNat [] (by omega) hk (by omega) (by simp)
  rw [Int.toNat_of_nonneg h0] at this
  unfold impl_varText.f
  rw [this, List.nil_append]

-- snippet readvar
/-! ReadVar -/
def pw : Nat → Int
  | 0 => 1
  | k + 1 => pw k * 128
def rv : Nat → Nat → Int → Int → List Int → Option (Int × Nat)
  | 0, _, _, _, _ => none
  | _ + 1, _, _, _, [] => none
  | r + 1, k, n, m, b :: l => if b < 128 then (if (b = 0 ∧ 0 < k) ∨ n + b % 128 * m > 1000000000 then none else some (n + b % 128 * m, k + 1)) else rv r (k + 1) (n + b % 128 * m) (m * 128) l
def rvOut (a : Nat) : Option (Int × Nat) → Int × Int × Bool
  | none => (0, 0, false)
  | some x => (x.1, ((a + x.2 : Nat) : Int), true)
theorem pw_succ (k : Nat) : pw (k + 1) = pw k * 128 := by simp only [pw]
theorem pw_vals : pw 0 = 1 ∧ pw 1 = 128 ∧ pw 2 = 16384 ∧ pw 3 = 2097152 ∧ pw 4 = 268435456 ∧ pw 5 = 34359738368 := by decide
attribute [local irreducible] pw
theorem five {k : Nat} (h : k < 5) : k = 0 ∨ k = 1 ∨ k = 2 ∨ k = 3 ∨ k = 4 := by omega
theorem step_range (k : Nat) (hk : k < 5) (n b : Int) (h0 : 0 ≤ n) (h1 : n < pw k) (hb0 : 0 ≤ b) (hb : b < 256) : 0 ≤ b % 128 * pw k ∧ b % 128 * pw k < 34359738368 ∧ 0 ≤ n + b % 128 * pw k ∧ n + b % 128 * pw k < pw (k + 1) ∧ pw (k + 1) ≤ 34359738368 ∧ 0 < pw k := by
  obtain ⟨p0, p1, p2, p3, p4, p5⟩ := pw_vals
  rcases five hk with rfl | rfl | rfl | rfl | rfl <;> simp only [p0, p1, p2, p3, p4, p5] at * <;> omega
theorem shl7 (k : Nat) (hk : k < 5) (x : Int) (h0 : 0 ≤ x) (h1 : x < 128) : shl .i64 x (wrap64 (7 * (k : Int))) = x * pw k := by
  obtain ⟨p0, p1, p2, p3, p4, p5⟩ := pw_vals
  have e : wrap64 (7 * (k : Int)) = ((7 * k : Nat) : Int) := by rw [wr _ (by omega) (by omega)]; omega
  rw [e]
  unfold shl
  rw [IntKind.wrap_i64, Int.toNat_natCast]
  rcases five hk with rfl | rfl | rfl | rfl | rfl
  · rw [p0, show min (7 * 0) IntKind.i64.bits = 0 from rfl]; omega
  · rw [p1, show min (7 * 1) IntKind.i64.bits = 7 from rfl]; omega
  · rw [p2, show min (7 * 2) IntKind.i64.bits = 14 from rfl]; omega
  · rw [p3, show min (7 * 3) IntKind.i64.bits = 21 from rfl]; omega
  · rw [p4, show min (7 * 4) IntKind.i64.bits = 28 from rfl]; omega
theorem impl_rv (s : ByteArray) (a : Nat) (hs : s.size < 140737488355328) : ∀ (r k K : Nat) (n : Int), r + k = 5 → 2 * r + 2 ≤ K → a + k ≤ s.size ∨ r = 0 → 0 ≤ n → n < pw k → a ≤ s.size →
    impl_ReadVar.l0 K s a n k = some (rvOut a (rv r k n (pw k) ((bl s).drop (a + k)))) := by
  intro r
  induction r with
  | zero =>
    intro k K n h hK _ h0 h1 ha
    obtain ⟨K, rfl⟩ : ∃ m, K = m + 2 := ⟨K - 2, by omega⟩
    simp only [impl_ReadVar.l0, impl_ReadVar.j1]
    rw [if_neg (by omega), if_neg (by simp)]
    simp [rv, rvOut]
  | succ r ih =>
    intro k K n h hK hak h0 h1 ha
    have hak : a + k ≤ s.size := by omega
    obtain ⟨K, rfl⟩ : ∃ m, K = m + 2 := ⟨K - 2, by omega⟩
    have q1 : r + (k + 1) = 5 := by omega
    have q2 : 2 * r + 2 ≤ K := by omega
    have e1 : wrap64 ((a : Int) + (k : Int)) = ((a + k : Nat) : Int) := by rw [wr _ (by omega) (by omega)]; omega
    have e2 : wrap64 (7 * (k : Int)) = ((7 * k : Nat) : Int) := by rw [wr _ (by omega) (by omega)]; omega
    simp only [impl_ReadVar.l0, impl_ReadVar.j1]
    rw [if_pos (by omega), e1]
    by_cases c : a + k < s.size
    · have lo := bt_lo s ((a + k : Nat) : Int)
      have hi := bt_hi s ((a + k : Nat) : Int)
      rw [drop_bt s (a + k) c]
      have e4 : shl .i64 (Int.tmod (bt s ((a + k : Nat) : Int)) 128) (wrap64 (7 * (k : Int))) = bt s ((a + k : Nat) : Int) % 128 * pw k := by
        rw [tmod_pos _ _ lo]
        exact shl7 k (by omega) _ (by omega) (by omega)
      obtain ⟨g0, g1, g2, g3, g4, g5⟩ := step_range k (by omega) n _ h0 h1 lo hi
      rw [if_pos (by simp; omega), if_pos (by omega), if_pos (by omega), if_pos (by rw [e2]; omega), wr (bt s ((a + k : Nat) : Int)) (by omega) (by omega), e4, wr _ (by omega) (by omega)]
      simp only [rv]
      generalize hM : bt s ((a + k : Nat) : Int) % 128 * pw k = M at *
      generalize bt s ((a + k : Nat) : Int) = b at *
      generalize n + M = V at *
      by_cases d : b < 128
      · clear hM e4 g0 g1 g2 g3 g4 g5 lo hi h0 h1 ih e2
        rw [if_pos d, if_pos d]
        have e3 : wrap64 (((a + k : Nat) : Int) + 1) = ((a + (k + 1) : Nat) : Int) := by rw [wr _ (by omega) (by omega)]; omega
        rw [e3]
        by_cases z : b = 0
        · rw [if_pos z]
          by_cases z2 : 0 < k
          · rw [if_pos (show (k : Int) > 0 by omega), if_pos (Or.inl ⟨z, z2⟩)]; simp only [rvOut]
          · rw [if_neg (show ¬ (k : Int) > 0 by omega)]
            by_cases g : V > 1000000000
            · rw [if_pos g, if_pos (Or.inr g)]; simp only [rvOut]
            · rw [if_neg g, if_neg (fun q => q.elim (fun q => z2 q.2) g)]; simp only [rvOut]
        · rw [if_neg z]
          by_cases g : V > 1000000000
          · rw [if_pos g, if_pos (Or.inr g)]; simp only [rvOut]
          · rw [if_neg g, if_neg (fun q => q.elim (fun q => z q.1) g)]; simp only [rvOut]
      · clear hM e4 g0 g1 g4 g5 e2
        rw [if_neg d, if_neg d]
        have e3 : wrap64 ((k : Int) + 1) = ((k + 1 : Nat) : Int) := by rw [wr _ (by omega) (by omega)]; omega
        rw [e3, ih (k + 1) K _ q1 q2 (Or.inl c) g2 g3 ha, ← Nat.add_assoc]
        rw [pw_succ]
    · rw [if_neg (by simp; omega), drop_end s (a + k) (by omega)]
      simp [rv, rvOut]
theorem impl_ReadVar_f (K : Nat) (s : ByteArray) (a : Int) (hs : s.size < 140737488355328) (h0 : 0 ≤ a) (h1 : a ≤ s.size) (hK : 12 ≤ K) : impl_ReadVar.f K s a = some (rvOut a.toNat (rv 5 0 0 1 ((bl s).drop a.toNat))) := by
  obtain ⟨a, rfl⟩ := Int.eq_ofNat_of_zero_le h0
  have := impl_rv s a hs 5 0 K 0 (by omega) (by omega) (by omega) (by omega) (by rw [pw_vals.1]; decide) (by omega)
  unfold impl_ReadVar.f impl_in.f
  rw [if_pos (by omega)]
  simp only [Option.bind_some]
  rw [if_pos (by simp; omega)]
  simpa [pw_vals.1] using this
theorem impl_ReadVar_bad (K : Nat) (s : ByteArray) (a : Int) (h : a < 0 ∨ (s.size : Int) < a) : impl_ReadVar.f K s a = some (0, 0, false) := by
  unfold impl_ReadVar.f impl_in.f
  split
  · simp only [Option.bind_some]; rw [if_neg (by simp; omega)]
  · simp only [Option.bind_some]; rw [if_neg (by simp)]
/-! what is read is what was written -/
def val : List Int → Int
  | [] => 0
  | b :: l => b % 128 + 128 * val l
theorem val_nonneg : ∀ l : List Int, 0 ≤ val l
  | [] => by simp [val]
  | b :: l => by have := val_nonneg l; simp only [val]; omega
theorem val_pos : ∀ (p : List Int) (b : Int), 0 < b → b < 128 → 0 < val (p ++ [b])
  | [], b, h, h1 => by simp only [List.nil_append, val]; omega
  | x :: p, b, h, h1 => by have := val_pos p b h h1; simp only [List.cons_append, val]; omega
theorem val_snoc : ∀ (p : List Int) (b : Int), val (p ++ [b]) = val p + b % 128 * pw p.length
  | [], b => by simp [val, pw_vals.1]
  | x :: p, b => by
    have := val_snoc p b
    simp only [List.cons_append, val, this, List.length_cons, pw_succ]
    rw [Int.mul_add, Int.mul_comm 128 (b % 128 * pw p.length), Int.mul_assoc]
    omega
theorem varL_val : ∀ (p : List Int) (b : Int), (∀ x ∈ p, 128 ≤ x ∧ x < 256) → 0 ≤ b → b < 128 → (p = [] ∨ b ≠ 0) → varL (val (p ++ [b])).toNat = p ++ [b]
  | [], b, _, h0, h1, _ => by
    simp only [List.nil_append, val]
    rw [varL, if_neg (by omega)]
    congr 1; omega
  | x :: p, b, hp, h0, h1, hb => by
    have hb : b ≠ 0 := by rcases hb with h | h; · cases h
                          · exact h
    have v := val_pos p b (by omega) h1
    have hx := hp x (by simp)
    have ih := varL_val p b (fun y hy => hp y (by simp [hy])) h0 h1 (Or.inr hb)
    simp only [List.cons_append, val]
    rw [varL, if_pos (by omega)]
    have e1 : (x % 128 + 128 * val (p ++ [b])).toNat / 128 = (val (p ++ [b])).toNat := by omega
    rw [e1, ih]
    congr 1; omega
theorem varL_no0 : ∀ (d n : Nat) (p : List Int), n < d → varL n = p ++ [0] → n = 0 ∧ p = [] := by
  intro d
  induction d with
  | zero => intro n p h; omega
  | succ d ih =>
    intro n p h e
    rw [varL] at e
    split at e
    · cases p with
      | nil =>
        have := (varL_len _ (n / 128) (Nat.lt_succ_self _)).1
        simp only [List.nil_append, List.cons.injEq] at e
        rw [e.2] at this
        simp at this
      | cons x p =>
        simp only [List.cons_append, List.cons.injEq] at e
        have := (ih (n / 128) p (by omega) e.2).1
        omega
    · cases p with
      | nil => simp at e; exact ⟨by omega, rfl⟩
      | cons x p => simp at e
theorem rv_bounds : ∀ (r k : Nat) (n m : Int) (l : List Int), 0 ≤ n → 0 ≤ m → (∀ x ∈ l, 0 ≤ x ∧ x < 256) → ∀ q j, rv r k n m l = some (q, j) → 0 ≤ q ∧ q ≤ 1000000000 ∧ k < j ∧ j ≤ k + r ∧ j ≤ k + l.length
  | 0, _, _, _, _, _, _, _, _, _, h => by simp [rv] at h
  | r + 1, k, n, m, [], _, _, _, _, _, h => by simp [rv] at h
  | r + 1, k, n, m, b :: l, hn, hm, hl, q, j, h => by
    have hb := hl b (by simp)
    have p : 0 ≤ b % 128 * m := Int.mul_nonneg (by omega) hm
    simp only [rv] at h
    by_cases c : b < 128
    · rw [if_pos c] at h
      by_cases z : (b = 0 ∧ 0 < k) ∨ n + b % 128 * m > 1000000000
      · rw [if_pos z] at h; cases h
      · rw [if_neg z] at h
        simp only [Option.some.injEq, Prod.mk.injEq] at h
        obtain ⟨rfl, rfl⟩ := h
        have z2 : ¬ n + b % 128 * m > 1000000000 := fun g => z (Or.inr g)
        refine ⟨Int.add_nonneg hn p, Int.not_lt.mp z2, by omega, by omega, by simp only [List.length_cons]; omega⟩
    · rw [if_neg c] at h
      have := rv_bounds r (k + 1) _ _ l (Int.add_nonneg hn p) (Int.mul_nonneg hm (by decide)) (fun x hx => hl x (by simp [hx])) q j h
      simp only [List.length_cons]
      refine ⟨this.1, this.2.1, ?_, ?_, ?_⟩ <;> omega
theorem rv_var : ∀ (r : Nat) (p l : List Int) (q : Int) (j : Nat), (∀ x ∈ p, 128 ≤ x ∧ x < 256) → (∀ x ∈ l, 0 ≤ x ∧ x < 256) → rv r p.length (val p) (pw p.length) l = some (q, j) → varL q.toNat = (p ++ l).take j
  | 0, _, _, _, _, _, _, h => by simp [rv] at h
  | r + 1, p, [], _, _, _, _, h => by simp [rv] at h
  | r + 1, p, b :: l, q, j, hp, hl, h => by
    have hb := hl b (by simp)
    simp only [rv] at h
    rw [← val_snoc] at h
    by_cases c : b < 128
    · rw [if_pos c] at h
      by_cases z : (b = 0 ∧ 0 < p.length) ∨ val (p ++ [b]) > 1000000000
      · rw [if_pos z] at h; cases h
      · rw [if_neg z] at h
        simp only [Option.some.injEq, Prod.mk.injEq] at h
        obtain ⟨rfl, rfl⟩ := h
        rw [take_snoc_cons]
        refine varL_val p b hp hb.1 c ?_
        cases p with
        | nil => left; rfl
        | cons x p => right; intro e; exact z (Or.inl ⟨e, by simp⟩)
    · rw [if_neg c, ← pw_succ] at h
      have e : (p ++ [b]).length = p.length + 1 := by simp
      rw [← e] at h
      have := rv_var r (p ++ [b]) l q j (by
        intro x hx
        rcases List.mem_append.mp hx with hx | hx
        · exact hp x hx
        · rw [List.mem_singleton] at hx; rw [hx]; omega) (fun x hx => hl x (by simp [hx])) h
      rw [this, List.append_assoc]
      rfl
theorem rv_var0 (l : List Int) (q : Int) (j : Nat) (hl : ∀ x ∈ l, 0 ≤ x ∧ x < 256) (h : rv 5 0 0 1 l = some (q, j)) : varL q.toNat = l.take j := by
  have := rv_var 5 [] l q j (by simp) hl (by simpa [val, pw_vals.1] using h)
  simpa using this
/-- the bytes of a number: all but the last at least 128 -/
theorem varL_form : ∀ (d n : Nat), n < d → ∃ p b, varL n = p ++ [b] ∧ (∀ x ∈ p, 128 ≤ x ∧ x < 256) ∧ 0 ≤ b ∧ b < 128 ∧ (p = [] ∨ b ≠ 0) ∧ val (p ++ [b]) = n := by
  intro d
  induction d with
  | zero => intro n h; omega
  | succ d ih =>
    intro n h
    by_cases c : 127 < n
    · obtain ⟨p, b, e, hp, h0, h1, hb, hv⟩ := ih (n / 128) (by omega)
      refine ⟨((n % 128 + 128 : Nat) : Int) :: p, b, by rw [varL, if_pos c, e]; rfl, ?_, h0, h1, ?_, ?_⟩
      · intro x hx
        rcases List.mem_cons.mp hx with rfl | hx
        · omega
        · exact hp x hx
      · right
        rintro rfl
        have := (varL_no0 _ (n / 128) p (Nat.lt_succ_self _) e).1
        omega
      · simp only [List.cons_append, val, hv]
        omega
    · refine ⟨[], (n : Int), by rw [varL, if_neg c]; rfl, by simp, by omega, by omega, Or.inl rfl, ?_⟩
      simp only [List.nil_append, val]
      omega
theorem rv_go : ∀ (p1 p0 : List Int) (r : Nat) (b : Int) (rest : List Int), (∀ x ∈ p1, 128 ≤ x) → b < 128 → p1.length < r → rv r p0.length (val p0) (pw p0.length) (p1 ++ b :: rest) = if (b = 0 ∧ 0 < (p0 ++ p1).length) ∨ val (p0 ++ p1 ++ [b]) > 1000000000 then none else some (val (p0 ++ p1 ++ [b]), (p0 ++ p1).length + 1)
  | [], p0, r, b, rest, _, hb, hr => by
    obtain ⟨r, rfl⟩ := succ_of hr
    simp only [List.nil_append, rv]
    rw [if_pos hb, ← val_snoc, List.append_nil]
  | x :: p1, p0, r, b, rest, hp, hb, hr => by
    obtain ⟨r, rfl⟩ := succ_of hr
    have hx := hp x (by simp)
    simp only [List.cons_append, rv]
    rw [if_neg (by omega), ← val_snoc, ← pw_succ]
    have := rv_go p1 (p0 ++ [x]) r b rest (fun y hy => hp y (by simp [hy])) hb (by simp only [List.length_cons] at hr; omega)
    have e : (p0 ++ [x]).length = p0.length + 1 := by simp
    rw [e] at this
    rw [this]
    simp [List.append_assoc]
theorem varL_len5 : ∀ (d n : Nat), n < 128 ^ (d + 1) → (varL n).length ≤ d + 1
  | 0, n, h => by
    rw [varL, if_neg (by simp at h; omega)]; simp
  | d + 1, n, h => by
    rw [varL]
    split
    · have := varL_len5 d (n / 128) (by rw [Nat.pow_succ] at h; omega)
      simp only [List.length_cons]; omega
    · simp
theorem rv_read (n : Nat) (rest : List Int) (h : n ≤ 1000000000) : rv 5 0 0 1 (varL n ++ rest) = some ((n : Int), (varL n).length) := by
  obtain ⟨p, b, e, hp, h0, h1, hb, hv⟩ := varL_form _ n (Nat.lt_succ_self _)
  have l5 := varL_len5 4 n (by omega)
  rw [e, List.length_append, List.length_singleton] at l5
  have g := rv_go p [] 5 b rest (fun x hx => (hp x hx).1) h1 (by omega)
  simp only [List.nil_append, List.length_nil, val, pw_vals.1, hv] at g
  rw [e, List.append_assoc]
  simp only [List.singleton_append]
  rw [g, if_neg]
  · simp
  · intro q
    rcases q with ⟨q1, q2⟩ | q
    · rcases hb with hb | hb
      · rw [hb] at q2; simp at q2
      · exact hb q1
    · omega
/-- of a number's bytes that are cut, nothing is read -/
theorem rv_cut : ∀ (p1 : List Int) (r k : Nat) (n m : Int), (∀ x ∈ p1, 128 ≤ x) → rv r k n m p1 = none
  | [], 0, _, _, _, _ => rfl
  | [], _ + 1, _, _, _, _ => rfl
  | x :: p1, 0, _, _, _, _ => rfl
  | x :: p1, r + 1, k, n, m, h => by
    have hx := h x (by simp)
    simp only [rv]
    rw [if_neg (by omega)]
    exact rv_cut p1 r _ _ _ (fun y hy => h y (by simp [hy]))

-- snippet hex
/-! Hex -/
def fig (d : Int) : Int := if d < 10 then 48 + d else 87 + d
def hexL : List Int → List Int
  | [] => []
  | c :: l => fig (c / 16) :: fig (c % 16) :: hexL l
theorem fig_range (d : Int) (h : 0 ≤ d ∧ d < 16) : 0 ≤ fig d ∧ fig d < 256 := by unfold fig; split <;> omega
theorem table_fig : ∀ d : Fin 16, bt (⟨#[48, 49, 50, 51, 52, 53, 54, 55, 56, 57, 97, 98, 99, 100, 101, 102]⟩ : ByteArray) ((d.val : Nat) : Int) = fig ((d.val : Nat) : Int) := by decide +kernel
theorem impl_fig (d : Int) (h : 0 ≤ d ∧ d < 16) : bt (⟨#[48, 49, 50, 51, 52, 53, 54, 55, 56, 57, 97, 98, 99, 100, 101, 102]⟩ : ByteArray) d = fig d := by
  have := table_fig ⟨d.toNat, by omega⟩
  simpa [Int.toNat_of_nonneg h.1] using this
theorem hexL_len (l : List Int) : (hexL l).length = 2 * l.length := by
  induction l with
  | nil => rfl
  | cons c l ih => simp only [hexL, List.length_cons, ih]; omega
theorem hexL_range (l : List Int) (h : ∀ x ∈ l, 0 ≤ x ∧ x < 256) : ∀ x ∈ hexL l, 0 ≤ x ∧ x < 256 := by
  induction l with
  | nil => intro x hx; simp [hexL] at hx
  | cons c l ih =>
    intro x hx
    have hc := h c (by simp)
    simp only [hexL, List.mem_cons] at hx
    rcases hx with rfl | rfl | hx
    · exact fig_range _ (by omega)
    · exact fig_range _ (by omega)
    · exact ih (fun y hy => h y (by simp [hy])) x hx
theorem impl_hex_l0 (s : ByteArray) : ∀ (d k i : Nat) (acc : List Int), i + d = s.size → d < k → s.size < 140737488355328 → acc.length + 2 * d < 140737488355328 →
    impl_hex.l0 k s acc i = some (strOfNums (acc ++ hexL ((bl s).drop i))) := by
  intro d
  induction d with
  | zero =>
    intro k i acc h hk hs hl
    obtain ⟨k, rfl⟩ := succ_of hk
    simp only [impl_hex.l0]
    rw [if_neg (by omega), drop_end s i (by omega)]
    simp [hexL]
  | succ d ih =>
    intro k i acc h hk hs hl
    obtain ⟨k, rfl⟩ := succ_of hk
    have lo := bt_lo s i
    have hi := bt_hi s i
    simp only [impl_hex.l0]
    rw [if_pos (by omega), if_pos (by omega), if_pos (by omega), if_pos (by omega), u8_and15 _ lo hi, if_pos (by omega), if_pos (by omega), impl_fig _ (by omega), impl_fig _ (by omega)]
    simp only [Option.bind_some]
    rw [if_pos (by simp only [List.length_cons, List.length_nil]; omega), wr _ (by omega) (by omega), show ((i : Int) + 1) = ((i + 1 : Nat) : Int) by omega, ih k (i + 1) _ (by omega) (by omega) hs (by simp; omega), drop_bt s i (by omega)]
    simp [hexL]
theorem impl_hex_f (k : Nat) (s : ByteArray) (h : s.size ≤ 20000) (hk : 20000 < k) : impl_hex.f k s = some (strOfNums (hexL (bl s))) := by
  have := impl_hex_l0 s s.size k 0 [] (by omega) (by omega) (by omega) (by simp; omega)
  unfold impl_hex.f
  simpa using this
theorem impl_Hex_f (k : Nat) (s : ByteArray) (h : s.size ≤ 20000) (hk : 20000 < k) : impl_Hex.f k s = some (strOfNums (hexL (bl s)), true) := by
  unfold impl_Hex.f
  rw [if_neg (by omega), impl_hex_f k s h hk]
  rfl

-- snippet unhex
/-! Unhex -/
def hval (c : Int) : Int := if 48 ≤ c ∧ c ≤ 57 then c - 48 else if 97 ≤ c ∧ c ≤ 102 then c - 87 else -1
theorem hval_range (c : Int) : -1 ≤ hval c ∧ hval c < 16 := by unfold hval; split <;> (try split) <;> omega
theorem impl_digit (k : Nat) (c : Int) (h : 0 ≤ c ∧ c < 256) : impl_hexDigit.f (k + 1) c = some (hval c) := by
  unfold impl_hexDigit.f hval
  simp only [impl_hexDigit.j0]
  by_cases a : 48 ≤ c <;> by_cases b : c ≤ 57 <;> by_cases d : 97 ≤ c <;> by_cases e : c ≤ 102 <;> simp [a, b, d, e] <;> omega
theorem impl_digit' (k : Nat) (hk : 0 < k) (c : Int) (h : 0 ≤ c ∧ c < 256) : impl_hexDigit.f k c = some (hval c) := by
  obtain ⟨k, rfl⟩ := succ_of hk
  exact impl_digit k c h
def unhL : List Int → Option (List Int)
  | [] => some []
  | [_] => none
  | a :: b :: l => if hval a < 0 ∨ hval b < 0 then none else (unhL l).map fun r => (16 * hval a + hval b) :: r
def unhR (acc : List Int) (r : Option (List Int)) : ByteArray × Bool := match r with
  | none => ((⟨#[]⟩ : ByteArray), false)
  | some l => (strOfNums (acc ++ l), true)
theorem unhex_l0 (s : ByteArray) (hs : s.size < 140737488355328) : ∀ (d k i : Nat) (acc : List Int), i + 2 * d = s.size → d + 2 ≤ k → acc.length + d < 140737488355328 →
    impl_Unhex.l0 k s acc i = some (unhR acc (unhL ((bl s).drop i))) := by
  intro d
  induction d with
  | zero =>
    intro k i acc h hk hl
    obtain ⟨k, rfl⟩ := succ_of hk
    simp only [impl_Unhex.l0]
    rw [if_neg (by omega), drop_end s i (by omega)]
    simp [unhL, unhR]
  | succ d ih =>
    intro k i acc h hk hl
    obtain ⟨k, rfl⟩ := succ_of hk
    have e1 : wrap64 ((i : Int) + 1) = ((i + 1 : Nat) : Int) := by rw [wr _ (by omega) (by omega)]; omega
    have e2 : wrap64 ((i : Int) + 2) = ((i + 2 : Nat) : Int) := by rw [wr _ (by omega) (by omega)]; omega
    have r1 := hval_range (bt s i)
    have r2 := hval_range (bt s ((i + 1 : Nat) : Int))
    simp only [impl_Unhex.l0]
    rw [if_pos (by omega), if_pos (by omega), impl_digit' k (by omega) _ ⟨bt_lo s _, bt_hi s _⟩, e1, e2, Option.bind_some, if_pos (by omega), if_pos (by omega), impl_digit' k (by omega) _ ⟨bt_lo s _, bt_hi s _⟩, Option.bind_some]
    rw [drop_bt s i (by omega), drop_bt s (i + 1) (by omega)]
    simp only [unhL]
    by_cases a : hval (bt s i) < 0
    · rw [if_pos a, if_pos (Or.inl a)]; rfl
    · by_cases b : hval (bt s ((i + 1 : Nat) : Int)) < 0
      · rw [if_neg a, if_pos b, if_pos (Or.inr b)]; rfl
      · rw [if_neg a, if_neg b, if_pos (by omega), if_neg (by omega), ih k (i + 2) _ (by omega) (by omega) (by simp; omega)]
        rw [wr (16 * hval (bt s i)) (by omega) (by omega), wr _ (by omega) (by omega)]
        have e3 : (16 * hval (bt s i) + hval (bt s ((i + 1 : Nat) : Int))) % 256 = 16 * hval (bt s i) + hval (bt s ((i + 1 : Nat) : Int)) := by omega
        rw [e3]
        cases unhL ((bl s).drop (i + 2)) with
        | none => rfl
        | some l => simp [unhR]
theorem impl_Unhex_f (k : Nat) (s : ByteArray) (h : s.size ≤ 40000) (h2 : s.size % 2 = 0) (hk : 40000 < k) : impl_Unhex.f k s = some (unhR [] (unhL (bl s))) := by
  obtain ⟨k, rfl⟩ := succ_of hk
  have := unhex_l0 s (by omega) (s.size / 2) k 0 [] (by omega) (by omega) (by simp; omega)
  unfold impl_Unhex.f
  simp only [impl_Unhex.j0]
  rw [if_pos (by omega), if_neg (by simp; omega)]
  simpa using this

theorem decFrom_snoc (b : UInt8) (d : Nat) (hb : Lib.digitVal b = some d) : ∀ (l : List UInt8) (acc : Nat), Lib.decFrom acc (l ++ [b]) = (Lib.decFrom acc l).map fun v => v * 10 + d
  | [], acc => by simp [Lib.decFrom, hb]
  | x :: l, acc => by
    simp only [List.cons_append, Lib.decFrom]
    cases Lib.digitVal x with
    | none => rfl
    | some e => exact decFrom_snoc b d hb l _
theorem digit_of (d : Nat) (h : d < 10) : Lib.digitVal (UInt8.ofNat (48 + d)) = some d := by
  have e : (UInt8.ofNat (48 + d)).toNat = 48 + d := by rw [UInt8.toNat_ofNat']; omega
  unfold Lib.digitVal
  rw [e, if_pos (by omega)]
  congr 1
  omega
theorem decFrom_digits : ∀ (m : Nat), Lib.decFrom 0 (Lib.decDigits m) = some m := by
  intro m
  induction m using Nat.strongRecOn with
  | _ m ih =>
    rw [Lib.decDigits]
    by_cases h : m < 10
    · rw [dif_pos h]
      have := decFrom_snoc _ m (digit_of m h) [] 0
      rw [List.nil_append] at this
      rw [this]
      simp [Lib.decFrom]
    · rw [dif_neg h, decFrom_snoc _ (m % 10) (digit_of _ (by omega)), ih (m / 10) (by omega)]
      simp only [Option.map_some]
      congr 1
      omega
theorem head_digits (m : Nat) : ∃ b r, Lib.decDigits m = b :: r ∧ 48 ≤ b.toNat := by
  induction m using Nat.strongRecOn with
  | _ m ih =>
    rw [Lib.decDigits]
    by_cases h : m < 10
    · rw [dif_pos h]
      refine ⟨_, _, rfl, ?_⟩
      rw [UInt8.toNat_ofNat']
      omega
    · rw [dif_neg h]
      obtain ⟨b, r, e, hb⟩ := ih (m / 10) (by omega)
      exact ⟨b, r ++ [UInt8.ofNat (48 + m % 10)], by rw [e]; rfl, hb⟩
theorem digits_len : ∀ (d m : Nat), m < 10 ^ (d + 1) → (Lib.decDigits m).length ≤ d + 1
  | 0, m, h => by rw [Lib.decDigits, dif_pos (by simpa using h)]; simp
  | d + 1, m, h => by
    rw [Lib.decDigits]
    by_cases c : m < 10
    · rw [dif_pos c]; simp
    · rw [dif_neg c, List.length_append]
      have := digits_len d (m / 10) (by rw [Nat.pow_succ] at h; omega)
      simp only [List.length_singleton]
      omega
theorem readR_digits (m : Nat) (h : m ≤ 1000000000) : Num.readR (Lib.decDigits m) = ((m : Int), true) := by
  obtain ⟨b, r, e, hb⟩ := head_digits m
  have l := digits_len 9 m (by omega)
  have l1 : 1 ≤ (Lib.decDigits m).length := by rw [e]; simp
  have a : Lib.atoi (Lib.decDigits m) = some (m : Int) := by
    have d := decFrom_digits m
    rw [e] at d ⊢
    have n45 : (b == 45) = false := by rw [beq_eq_false_iff_ne]; intro q; rw [q] at hb; exact absurd hb (by decide)
    have n43 : (b == 43) = false := by rw [beq_eq_false_iff_ne]; intro q; rw [q] at hb; exact absurd hb (by decide)
    have ea : Lib.atoi (b :: r) = if (b == 45) = true then (Lib.decNat r).map fun (m : Nat) => -(m : Int) else if (b == 43) = true then (Lib.decNat r).map fun (m : Nat) => (m : Int) else (Lib.decNat (b :: r)).map fun (m : Nat) => (m : Int) := rfl
    have dn : Lib.decNat (b :: r) = Lib.decFrom 0 (b :: r) := rfl
    rw [ea, n45, n43, if_neg (by decide), if_neg (by decide), dn, d]
    rfl
  unfold Num.readR
  rw [if_pos ⟨l1, by omega⟩, a]
  simp only
  rw [Lib.itoa_nonneg, if_pos ⟨by omega, by omega, rfl⟩]
theorem Decimal_read (x : Nat) (h : x ≤ 1000000000) : impl_Decimal.f (x : Int) = some ⟨(Lib.decDigits x).toArray⟩ ∧ impl_ReadDecimal.f ⟨(Lib.decDigits x).toArray⟩ = some ((x : Int), true) := by
  have l := digits_len 9 x (by omega)
  constructor
  · unfold impl_Decimal.f
    rw [if_pos (by omega), Lib.itoa_nonneg]
  · unfold impl_ReadDecimal.f
    rw [if_pos (by show (Lib.decDigits x).toArray.size ≤ _; rw [List.size_toArray]; omega), readR_digits x h]
theorem VarText_f (K x : Nat) (h : x ≤ 1000000000) (hK : 1000000001 ≤ K) : impl_VarText.f K (x : Int) = some (strOfNums (varL x), true) := by
  unfold impl_VarText.f impl_in.f
  rw [if_pos (show (x : Int) ≥ 0 by omega), Option.bind_some, if_pos (by simp; omega), impl_var_f K x (by omega) (by omega) hK, Option.bind_some, Int.toNat_natCast]
theorem ReadVar_of (K x : Nat) (h : x ≤ 1000000000) (hK : 12 ≤ K) (s : ByteArray) (a : Nat) (rest : List Int) (hs : s.size < 140737488355328) (ha : a ≤ s.size) (e : (bl s).drop a = varL x ++ rest) :
    impl_ReadVar.f K s (a : Int) = some ((x : Int), ((a + (varL x).length : Nat) : Int), true) := by
  rw [impl_ReadVar_f K s a hs (by omega) (by omega) hK, Int.toNat_natCast, e, rv_read x rest h]
  rfl
theorem ShortText_f (K : Nat) (t : ByteArray) (h : t.size ≤ 300) (hK : 1000000001 ≤ K) : impl_ShortText.f K t = some (strOfNums (varL t.size) ++ t, true) := by
  have l := varL_len5 4 t.size (by omega)
  have g : (strOfNums (varL t.size)).size + t.size ≤ 9223372036854775807 := by rw [str_size]; omega
  unfold impl_ShortText.f impl_shortText.f
  rw [if_neg (by omega), impl_var_f K _ (by omega) (by omega) hK, Option.bind_some, Int.toNat_natCast, if_pos g, Option.bind_some]
theorem ReadShort_of (K : Nat) (t : ByteArray) (h : t.size ≤ 300) (hK : 12 ≤ K) : impl_ReadShort.f K (strOfNums (varL t.size) ++ t) 0 = some (t, ((strOfNums (varL t.size) ++ t).size : Int), true) := by
  have l := varL_len5 4 t.size (by omega)
  have sz : (strOfNums (varL t.size) ++ t).size = (varL t.size).length + t.size := by rw [ByteArray.size_append, str_size]
  have rv := ReadVar_of K t.size (by omega) hK (strOfNums (varL t.size) ++ t) 0 (bl t) (by omega) (by omega) (by rw [List.drop_zero, bl_append, bl_var])
  have ex : (strOfNums (varL t.size) ++ t).extract (varL t.size).length ((varL t.size).length + t.size) = t := by
    apply bl_inj
    rw [bl_extract, bl_append, bl_var, List.drop_left, Nat.add_sub_cancel_left, List.take_of_length_le (by rw [bl_len]; exact Nat.le_refl _)]
  rw [Nat.zero_add] at rv
  unfold impl_ReadShort.f
  rw [show (0 : Int) = ((0 : Nat) : Int) from rfl, rv, Option.bind_some]
  dsimp only
  have w1 : wrap64 (((strOfNums (varL t.size) ++ t).size : Int) - ((varL t.size).length : Int)) = (t.size : Int) := wrn _ (by omega) (by omega)
  have w2 : wrap64 (((varL t.size).length : Int) + (t.size : Int)) = (((varL t.size).length + t.size : Nat) : Int) := wrn _ (by omega) (by omega)
  rw [if_pos rfl, if_neg (by omega), w1, if_neg (by omega), w2, if_pos (by omega), if_pos (by omega), if_pos (by omega), Int.toNat_natCast, Int.toNat_natCast, ex, sz]
theorem hval_fig : ∀ d : Fin 16, hval (fig ((d.val : Nat) : Int)) = ((d.val : Nat) : Int) := by decide
theorem hval_fig' (d : Int) (h : 0 ≤ d ∧ d < 16) : hval (fig d) = d := by
  have := hval_fig ⟨d.toNat, by omega⟩
  rw [show ((d.toNat : Nat) : Int) = d by omega] at this
  exact this
theorem unh_hex : ∀ (l : List Int), (∀ x ∈ l, 0 ≤ x ∧ x < 256) → unhL (hexL l) = some l
  | [], _ => rfl
  | x :: l, h => by
    have hx := h x (by simp)
    have a := hval_fig' (x / 16) (by omega)
    have b := hval_fig' (x % 16) (by omega)
    simp only [hexL, unhL]
    rw [a, b, if_neg (by omega), unh_hex l (fun y hy => h y (List.mem_cons_of_mem _ hy))]
    simp only [Option.map_some]
    congr 2
    omega
theorem Hex_unhex (K : Nat) (t : ByteArray) (h : t.size ≤ 300) (hK : 40001 ≤ K) : impl_Hex.f K t = some (strOfNums (hexL (bl t)), true) ∧ impl_Unhex.f K (strOfNums (hexL (bl t))) = some (t, true) := by
  refine ⟨impl_Hex_f K t (by omega) (by omega), ?_⟩
  have sz : (strOfNums (hexL (bl t))).size = 2 * t.size := by rw [str_size, hexL_len, bl_len]
  rw [impl_Unhex_f K _ (by omega) (by omega) (by omega), bl_str _ (hexL_range _ (bl_range t)), unh_hex _ (bl_range t)]
  simp [unhR, str_bl]
theorem number_ok (b : List Int) (hb : b.length ≤ 1048576) (i h : Int) (hi : curOk b i) : ∃ x i' h', spec_l01Number.f b i h = some (x, i', h') := by
  obtain ⟨k, i1, h1, e1, l1, u1, c1⟩ := below_ok b hb i h 4 hi (by omega)
  unfold spec_l01Number.f
  rw [e1, Option.bind_some]
  dsimp only
  by_cases k0 : k = 0
  · rw [if_pos k0]
    unfold spec_l01PickInt.f
    obtain ⟨y, i2, h2, e2, l2, u2, c2⟩ := below_ok b hb i1 h1 10 c1 (by omega)
    have e10 : (([(-1), 0, 127, 128, 16383, 16384, 1000000000, 1000000001, 9223372036854775807, (-9223372036854775808)] : List Int).length : Int) = 10 := rfl
    rw [e10, e2, Option.bind_some]
    dsimp only
    rw [if_pos l2, if_pos u2, Option.bind_some]
    exact ⟨_, _, _, rfl⟩
  · rw [if_neg k0]
    by_cases k1 : k = 1
    · rw [if_pos k1]
      obtain ⟨y, i2, h2, e2, l2, u2, c2⟩ := below_ok b hb i1 h1 1000000000 c1 (by omega)
      rw [e2, Option.bind_some]
      exact ⟨_, _, _, rfl⟩
    · rw [if_neg k1]
      obtain ⟨y, i2, h2, e2, l2, u2, c2⟩ := below_ok b hb i1 h1 400 c1 (by omega)
      rw [e2, Option.bind_some]
      exact ⟨_, _, _, rfl⟩
theorem num_j2 (K x : Nat) (hx : x ≤ 1000000000) (t : ByteArray) (ht : t.size ≤ 300) (hK : 1000000001 ≤ K) : laws_FnNumbers.j2 (K + 1) (x : Int) (strOfNums (varL x)) true (x : Int) (((varL x).length + 1 : Nat) : Int) true (x : Int) true t = some true := by
  obtain ⟨x1, x2⟩ := Hex_unhex K t ht (by omega)
  have sv : wrap64 (((strOfNums (varL x)).size : Int) + 1) = (((varL x).length + 1 : Nat) : Int) := by
    have := varL_len5 4 x (by omega)
    rw [str_size]
    exact wrn _ (by omega) (by omega)
  rw [laws_FnNumbers.j2, ShortText_f K t ht hK, Option.bind_some]
  dsimp only
  rw [ReadShort_of K t ht (by omega), Option.bind_some, x1, Option.bind_some]
  dsimp only
  rw [x2, Option.bind_some, if_pos rfl, if_pos rfl, if_pos rfl, if_pos rfl, if_pos rfl, if_pos rfl, if_pos rfl, if_pos rfl, if_pos rfl, sv, if_pos rfl, if_pos rfl, if_pos rfl]
  simp
theorem num_j1 (b : List Int) (hb : b.length ≤ 1048576) (K x : Nat) (hx : x ≤ 1000000000) (hK : 1000000003 ≤ K) : laws_FnNumbers.j1 (K + 1) b (x : Int) = some true := by
  obtain ⟨t, ht, e⟩ := drawhex_ok b hb
  obtain ⟨d1, d2⟩ := Decimal_read x hx
  have l := varL_len5 4 x (by omega)
  have s1 : 1 + (strOfNums (varL x)).size ≤ 9223372036854775807 := by rw [str_size]; omega
  have sz : (((⟨#[120]⟩ : ByteArray) ++ strOfNums (varL x)) ++ (⟨#[121]⟩ : ByteArray)).size = 2 + (varL x).length := by rw [ByteArray.size_append, ByteArray.size_append, str_size]; show 1 + (varL x).length + 1 = _; omega
  have s2 : ((⟨#[120]⟩ : ByteArray) ++ strOfNums (varL x)).size + 1 ≤ 9223372036854775807 := by rw [ByteArray.size_append, str_size]; show 1 + (varL x).length + 1 ≤ _; omega
  have rv := ReadVar_of K x hx (by omega) (((⟨#[120]⟩ : ByteArray) ++ strOfNums (varL x)) ++ (⟨#[121]⟩ : ByteArray)) 1 [121] (by omega) (by omega) (by
    rw [bl_append, bl_append, bl_var]
    rfl)
  obtain ⟨K, rfl⟩ : ∃ m, K = m + 1 := ⟨K - 1, by omega⟩
  rw [laws_FnNumbers.j1, VarText_f _ x hx (by omega), Option.bind_some]
  dsimp only
  rw [if_pos s1, if_pos s2, show (1 : Int) = ((1 : Nat) : Int) from rfl, rv, Option.bind_some, d1, Option.bind_some, d2, Option.bind_some, e _ (by omega), Option.bind_some]
  dsimp only
  rw [show 1 + (varL x).length = (varL x).length + 1 by omega]
  by_cases c : (t.size : Int) > 300
  · rw [if_pos c]
    exact num_j2 K x hx _ (by decide) (by omega)
  · rw [if_neg c]
    exact num_j2 K x hx t (by omega) (by omega)
theorem FnNumbers : laws_FnNumbers.Pure := by
  intro b _ _ _
  refine ⟨1000000100, ?_⟩
  unfold laws_FnNumbers.f laws_big.f
  rw [Option.bind_some]
  by_cases h : (b.length : Int) > 1048576
  · rw [if_pos (by simpa using h)]
  · rw [if_neg (by simpa using h)]
    obtain ⟨h0, e0⟩ := new_ok b (by omega)
    obtain ⟨n, i', h', e1⟩ := number_ok b (by omega) 0 h0 ⟨by omega, by omega⟩
    have en : spec_DrawVarText.f 1000000100 b = some n := by
      unfold spec_DrawVarText.f
      rw [e0 _ (by omega), Option.bind_some]
      dsimp only
      rw [e1, Option.bind_some]
    have j0 : ∀ f : Bool, (f = false → 0 ≤ n ∧ n ≤ 1000000000) → laws_FnNumbers.j0 1000000100 b n f = some true := by
      intro f hf
      rw [laws_FnNumbers.j0]
      by_cases c : f = true
      · rw [if_pos c]
        exact num_j1 b (by omega) 1000000098 12345 (by omega) (by omega)
      · rw [if_neg c]
        obtain ⟨a1, a2⟩ := hf (by simpa using c)
        have := num_j1 b (by omega) 1000000098 n.toNat (by omega) (by omega)
        rw [show ((n.toNat : Nat) : Int) = n by omega] at this
        exact this
    rw [en, Option.bind_some]
    by_cases c : n < 0
    · rw [if_pos c]; exact j0 true (fun q => by cases q)
    · rw [if_neg c]
      exact j0 _ (fun q => by have := of_decide_eq_false q; omega)

end Go.Proofs.YtkdmmaeblknlnaaDoor.Pure
