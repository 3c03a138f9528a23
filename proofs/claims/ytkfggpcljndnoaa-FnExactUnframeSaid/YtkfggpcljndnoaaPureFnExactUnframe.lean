/- Of every file the program's Unframe and the reference's give the same records and the same place; the records are new memory each time. No condition but the form's own bound on a text's size. -/
import Derived.Test.YtkfggpcljndnoaaPFnExactUnframex5
set_option linter.unusedVariables false
set_option linter.unusedSimpArgs false
namespace Go.Proofs.Ytkfggpcljndnoaa.Pure
open Go.RowKit Go.Proofs.Ytkfggpcljndnoaa.PFnExactUnframe Go.Proofs.YtkfggpcljndnoaaW.PrintWords Go.Proofs.YtkfggpcljndnoaaW.PrintLast Go.Proofs.YtkfggpcljndnoaaW.PrintMore

-- snippet plain
/-! bytes as numbers -/
def bl (s : ByteArray) : List Int := s.data.toList.map fun b => (b.toNat : Int)
theorem bl_len (s : ByteArray) : (bl s).length = s.size := by unfold bl; rw [List.length_map, Array.length_toList]; rfl
theorem map_u8_inj : ∀ {a b : List UInt8}, a.map (fun b => (b.toNat : Int)) = b.map (fun b => (b.toNat : Int)) → a = b
  | [], [], _ => rfl
  | [], _ :: _, h => by simp at h
  | _ :: _, [], h => by simp at h
  | x :: a, y :: b, h => by
    simp only [List.map_cons, List.cons.injEq] at h
    have e : x = y := UInt8.toNat_inj.mp (by omega)
    rw [e, map_u8_inj h.2]
theorem bl_inj {s t : ByteArray} (h : bl s = bl t) : s = t := by
  have := map_u8_inj h
  cases s; cases t
  simp only [ByteArray.mk.injEq] at *
  exact Array.toList_inj.mp this
theorem bl_eq {s t : ByteArray} : s = t ↔ bl s = bl t := ⟨fun h => by rw [h], bl_inj⟩
theorem toList_bl {s t : ByteArray} : s.toList = t.toList ↔ bl s = bl t := by
  rw [ByteArray.toList_eq, ByteArray.toList_eq]
  exact ⟨fun h => by unfold bl; rw [h], fun h => by rw [bl_inj h]⟩
theorem bl_range (s : ByteArray) : ∀ x ∈ bl s, 0 ≤ x ∧ x < 256 := by
  intro x hx
  simp only [bl, List.mem_map] at hx
  obtain ⟨b, _, rfl⟩ := hx
  have := b.toNat_lt
  omega
theorem bt_bl (s : ByteArray) (i : Int) : bt s i = (bl s).getD i.toNat 0 := by
  unfold bt bl
  split
  · rename_i h
    have h' : i.toNat < s.data.toList.length := by rw [Array.length_toList]; exact h
    rw [List.getD_eq_getElem?_getD, List.getElem?_map, List.getElem?_eq_getElem h']
    rfl
  · rename_i h
    have h' : s.data.toList.length ≤ i.toNat := by rw [Array.length_toList]; exact Nat.le_of_not_lt h
    rw [List.getD_eq_getElem?_getD, List.getElem?_map, List.getElem?_eq_none h']
    rfl
theorem bl_append (s t : ByteArray) : bl (s ++ t) = bl s ++ bl t := by simp [bl]
theorem bl_extract (s : ByteArray) (a b : Nat) : bl (s.extract a b) = ((bl s).drop a).take (b - a) := by
  simp [bl, List.map_take, List.map_drop]
theorem u8_ofNat (n : Int) (h : 0 ≤ n ∧ n < 256) : ((UInt8.ofNat n.toNat).toNat : Int) = n := by
  rw [UInt8.toNat_ofNat']
  omega
theorem bl_str (xs : List Int) (h : ∀ x ∈ xs, 0 ≤ x ∧ x < 256) : bl (strOfNums xs) = xs := by
  unfold bl
  rw [strOfNums_data, List.map_map]
  conv => rhs; rw [← List.map_id xs]
  exact List.map_congr_left fun x hx => u8_ofNat x (h x hx)
theorem str_bl (s : ByteArray) : strOfNums (bl s) = s := bl_inj (bl_str _ (bl_range s))
theorem str_size (xs : List Int) : (strOfNums xs).size = xs.length := strOfNums_size xs
theorem bl_nil : bl (⟨#[]⟩ : ByteArray) = [] := rfl
theorem bt_lo (s : ByteArray) (i : Int) : 0 ≤ bt s i := (bt_range s i).1
theorem bt_hi (s : ByteArray) (i : Int) : bt s i < 256 := by have := (bt_range s i).2; omega
theorem wr (n : Int) (h : -9223372036854775808 ≤ n) (h' : n ≤ 9223372036854775807) : wrap64 n = n := by unfold wrap64; omega
theorem tdiv_pos (a b : Int) (h : 0 ≤ a) : Int.tdiv a b = a / b := Int.tdiv_eq_ediv_of_nonneg h
theorem tmod_pos (a b : Int) (h : 0 ≤ a) : Int.tmod a b = a % b := Int.tmod_eq_emod_of_nonneg h
theorem succ_of {k d : Nat} (h : d < k) : ∃ m, k = m + 1 := ⟨k - 1, by omega⟩
theorem drop_bt (s : ByteArray) (i : Nat) (h : i < s.size) : (bl s).drop i = bt s i :: (bl s).drop (i + 1) := by
  have h' : i < (bl s).length := by rw [bl_len]; exact h
  rw [List.drop_eq_getElem_cons h', bt_bl, Int.toNat_natCast, List.getD_eq_getElem?_getD, List.getElem?_eq_getElem h']
  rfl
theorem drop_end (s : ByteArray) (i : Nat) (h : s.size ≤ i) : (bl s).drop i = [] := List.drop_eq_nil_of_le (by rw [bl_len]; exact h)
theorem take_snoc_cons {α : Type} (p : List α) (b : α) (l : List α) : (p ++ b :: l).take (p.length + 1) = p ++ [b] := by
  rw [List.take_length_add_append]; simp
attribute [local irreducible] bt

-- snippet sumdef
/-! the check sum -/
theorem xor32_range (a b : Int) : 0 ≤ Go.bits .xor .u32 a b ∧ Go.bits .xor .u32 a b < 4294967296 := by
  unfold Go.bits
  simp only [IntKind.wrap_u32]
  omega
theorem and1 (x : Int) (h0 : 0 ≤ x) (h1 : x < 4294967296) : Go.bits .and .u32 x 1 = x % 2 :=
  bits_mask .u32 32 (by decide) (fun n g0 g1 => by rw [IntKind.wrap_u32]; exact Int.emod_eq_of_lt g0 g1) 1 (by decide) x h0 h1
def sh (x : Int) : Int := if x % 2 = 1 then Go.bits .xor .u32 (x / 2) 3558460437 else x / 2
theorem sh_range (x : Int) (h : 0 ≤ x ∧ x < 4294967296) : 0 ≤ sh x ∧ sh x < 4294967296 := by
  unfold sh
  split
  · exact xor32_range _ _
  · omega
def step8 (x b : Int) : Int := sh (sh (sh (sh (sh (sh (sh (sh (Go.bits .xor .u32 x b))))))))
theorem step8_range (x b : Int) : 0 ≤ step8 x b ∧ step8 x b < 4294967296 := by
  unfold step8
  exact sh_range _ (sh_range _ (sh_range _ (sh_range _ (sh_range _ (sh_range _ (sh_range _ (sh_range _ (xor32_range _ _))))))))
def sumL (x : Int) (l : List Int) : Int := l.foldl step8 x
theorem sumL_range : ∀ (l : List Int) (x : Int), 0 ≤ x ∧ x < 4294967296 → 0 ≤ sumL x l ∧ sumL x l < 4294967296
  | [], x, h => h
  | b :: l, x, _ => sumL_range l (step8 x b) (step8_range x b)
theorem sumL_append (x : Int) (a b : List Int) : sumL x (a ++ b) = sumL (sumL x a) b := List.foldl_append
def fourL (n : Int) : List Int := [(n / 16777216) % 256, (n / 65536) % 256, (n / 256) % 256, n % 256]
theorem fourL_range (n : Int) : ∀ x ∈ fourL n, 0 ≤ x ∧ x < 256 := by
  intro x hx
  simp only [fourL, List.mem_cons, List.not_mem_nil, or_false] at hx
  rcases hx with rfl | rfl | rfl | rfl <;> omega
theorem fourL_inj (a b : Int) (ha : 0 ≤ a ∧ a < 4294967296) (hb : 0 ≤ b ∧ b < 4294967296) (h : fourL a = fourL b) : a = b := by
  simp only [fourL, List.cons.injEq, and_true] at h
  omega

-- snippet sumimpl
theorem impl_sum_l1 (K : Nat) (x : Int) (s : ByteArray) (i j : Int) (h : 0 ≤ x ∧ x < 4294967296) (h0 : 0 ≤ j) (hj : j < 8) : impl_SumMore.l1 (K + 1) x s i j = impl_SumMore.l1 K (sh x) s i (j + 1) := by
  simp only [impl_SumMore.l1]
  rw [if_pos hj, and1 x h.1 h.2, wr (j + 1) (by omega) (by omega)]
  unfold sh
  split <;> rfl
theorem impl_sum_l1_end (K : Nat) (x : Int) (s : ByteArray) (i : Int) : impl_SumMore.l1 (K + 1) x s i 8 = impl_SumMore.l0 K x s (wrap64 (i + 1)) := by
  simp only [impl_SumMore.l1]
  rw [if_neg (by omega)]
theorem impl_sum_byte (K i : Nat) (x : Int) (s : ByteArray) (hi : i < s.size) (hs : s.size < 140737488355328) : impl_SumMore.l0 (K + 10) x s i = impl_SumMore.l0 K (step8 x (bt s i)) s ((i + 1 : Nat) : Int) := by
  have e0 : impl_SumMore.l0 (K + 10) x s i = impl_SumMore.l1 (K + 9) (Go.bits .xor .u32 x (bt s i)) s i 0 := by
    have lo := bt_lo s i
    have hi2 := bt_hi s i
    have e : bt s i % 4294967296 = bt s i := by omega
    simp only [impl_SumMore.l0]
    rw [if_pos (by omega), if_pos (by omega), e]
  have r := xor32_range x (bt s i)
  rw [e0]
  have r1 := sh_range _ r
  have r2 := sh_range _ r1
  have r3 := sh_range _ r2
  have r4 := sh_range _ r3
  have r5 := sh_range _ r4
  have r6 := sh_range _ r5
  have r7 := sh_range _ r6
  rw [impl_sum_l1 (K + 8) _ s i 0 r (by decide) (by decide), impl_sum_l1 (K + 7) _ s i _ r1 (by decide) (by decide), impl_sum_l1 (K + 6) _ s i _ r2 (by decide) (by decide), impl_sum_l1 (K + 5) _ s i _ r3 (by decide) (by decide), impl_sum_l1 (K + 4) _ s i _ r4 (by decide) (by decide), impl_sum_l1 (K + 3) _ s i _ r5 (by decide) (by decide), impl_sum_l1 (K + 2) _ s i _ r6 (by decide) (by decide), impl_sum_l1 (K + 1) _ s i _ r7 (by decide) (by decide)]
  have e8 : (0 + 1 + 1 + 1 + 1 + 1 + 1 + 1 + 1 : Int) = 8 := by decide
  rw [e8, impl_sum_l1_end, wr _ (by omega) (by omega)]
  rfl
theorem impl_sum_l0 (s : ByteArray) (hs : s.size < 140737488355328) : ∀ (d K i : Nat) (x : Int), i + d = s.size → 10 * d + 1 ≤ K → impl_SumMore.l0 K x s i = some (sumL x ((bl s).drop i)) := by
  intro d
  induction d with
  | zero =>
    intro K i x h hK
    obtain ⟨K, rfl⟩ := succ_of hK
    simp only [impl_SumMore.l0]
    rw [if_neg (by omega), drop_end s i (by omega)]
    rfl
  | succ d ih =>
    intro K i x h hK
    obtain ⟨K, rfl⟩ : ∃ m, K = m + 10 := ⟨K - 10, by omega⟩
    rw [impl_sum_byte K i x s (by omega) hs, ih K (i + 1) _ (by omega) (by omega), drop_bt s i (by omega)]
    rfl
theorem impl_SumMore_f (K : Nat) (x : Int) (s : ByteArray) (hs : s.size < 140737488355328) (hK : 10 * s.size + 1 ≤ K) : impl_SumMore.f K x s = some (sumL x (bl s)) := by
  have := impl_sum_l0 s hs s.size K 0 x (by omega) hK
  unfold impl_SumMore.f
  simpa using this

-- snippet sumof_impl
theorem impl_SumOf_f (K : Nat) (s : ByteArray) (hs : s.size < 140737488355328) (hK : 10 * s.size + 1 ≤ K) : impl_SumOf.f K s = some (sumL 4294967295 (bl s)) := by
  unfold impl_SumOf.f
  rw [impl_SumMore_f K _ s hs hK]
  rfl

-- snippet sumspec
theorem spec_sum_l1 (K : Nat) (x : Int) (s : ByteArray) (i j : Int) (h : 0 ≤ x ∧ x < 4294967296) (h0 : 0 ≤ j) (hj : j < 8) : spec_SumMore.l1 (K + 1) x s i j = spec_SumMore.l1 K (sh x) s i (j + 1) := by
  simp only [spec_SumMore.l1]
  rw [if_pos hj, tmod_pos x 2 h.1, tdiv_pos x 2 h.1, show x / 2 % 4294967296 = x / 2 by omega, wr (j + 1) (by omega) (by omega)]
  unfold sh
  split <;> rfl
theorem spec_sum_l1_end (K : Nat) (x : Int) (s : ByteArray) (i : Int) : spec_SumMore.l1 (K + 1) x s i 8 = spec_SumMore.l0 K x s (wrap64 (i + 1)) := by
  simp only [spec_SumMore.l1]
  rw [if_neg (by omega)]
theorem spec_sum_byte (K i : Nat) (x : Int) (s : ByteArray) (hi : i < s.size) (hs : s.size < 140737488355328) : spec_SumMore.l0 (K + 10) x s i = spec_SumMore.l0 K (step8 x (bt s i)) s ((i + 1 : Nat) : Int) := by
  have e0 : spec_SumMore.l0 (K + 10) x s i = spec_SumMore.l1 (K + 9) (Go.bits .xor .u32 x (bt s i)) s i 0 := by
    have lo := bt_lo s i
    have hi2 := bt_hi s i
    have e : bt s i % 4294967296 = bt s i := by omega
    simp only [spec_SumMore.l0]
    rw [if_pos (by omega), if_pos (by omega), e]
  have r := xor32_range x (bt s i)
  rw [e0]
  have r1 := sh_range _ r
  have r2 := sh_range _ r1
  have r3 := sh_range _ r2
  have r4 := sh_range _ r3
  have r5 := sh_range _ r4
  have r6 := sh_range _ r5
  have r7 := sh_range _ r6
  rw [spec_sum_l1 (K + 8) _ s i 0 r (by decide) (by decide), spec_sum_l1 (K + 7) _ s i _ r1 (by decide) (by decide), spec_sum_l1 (K + 6) _ s i _ r2 (by decide) (by decide), spec_sum_l1 (K + 5) _ s i _ r3 (by decide) (by decide), spec_sum_l1 (K + 4) _ s i _ r4 (by decide) (by decide), spec_sum_l1 (K + 3) _ s i _ r5 (by decide) (by decide), spec_sum_l1 (K + 2) _ s i _ r6 (by decide) (by decide), spec_sum_l1 (K + 1) _ s i _ r7 (by decide) (by decide)]
  have e8 : (0 + 1 + 1 + 1 + 1 + 1 + 1 + 1 + 1 : Int) = 8 := by decide
  rw [e8, spec_sum_l1_end, wr _ (by omega) (by omega)]
  rfl
theorem spec_sum_l0 (s : ByteArray) (hs : s.size < 140737488355328) : ∀ (d K i : Nat) (x : Int), i + d = s.size → 10 * d + 1 ≤ K → spec_SumMore.l0 K x s i = some (sumL x ((bl s).drop i)) := by
  intro d
  induction d with
  | zero =>
    intro K i x h hK
    obtain ⟨K, rfl⟩ := succ_of hK
    simp only [spec_SumMore.l0]
    rw [if_neg (by omega), drop_end s i (by omega)]
    rfl
  | succ d ih =>
    intro K i x h hK
    obtain ⟨K, rfl⟩ : ∃ m, K = m + 10 := ⟨K - 10, by omega⟩
    rw [spec_sum_byte K i x s (by omega) hs, ih K (i + 1) _ (by omega) (by omega), drop_bt s i (by omega)]
    rfl
theorem spec_SumMore_f (K : Nat) (x : Int) (s : ByteArray) (hs : s.size < 140737488355328) (hK : 10 * s.size + 1 ≤ K) : spec_SumMore.f K x s = some (sumL x (bl s)) := by
  have := spec_sum_l0 s hs s.size K 0 x (by omega) hK
  unfold spec_SumMore.f
  simpa using this

-- snippet sumof_spec
theorem spec_SumOf_f (K : Nat) (s : ByteArray) (hs : s.size < 140737488355328) (hK : 10 * s.size + 1 ≤ K) : spec_SumOf.f K s = some (sumL 4294967295 (bl s)) := by
  unfold spec_SumOf.f
  rw [spec_SumMore_f K _ s hs hK]
  rfl

-- snippet var
/-! VarText -/
def varL (n : Nat) : List Int := if 127 < n then ((n % 128 + 128 : Nat) : Int) :: varL (n / 128) else [(n : Int)]
termination_by n
decreasing_by omega
theorem spec_var : ∀ (d k n : Nat) (xs : List Int), n < d → d ≤ k → n < 4611686018427387904 → xs.length + d < 140737488355328 → spec_l01Var.l0 k n xs = some (strOfNums (xs ++ varL n)) := by
  intro d
  induction d with
  | zero => intro k n xs h; omega
  | succ d ih =>
    intro k n xs h hk hn hl
    obtain ⟨k, rfl⟩ := succ_of hk
    simp only [spec_l01Var.l0]
    by_cases c : 127 < n
    · rw [if_pos (by omega), if_pos (by omega)]
      have e1 : wrap64 (Int.tdiv (n : Int) 128) = ((n / 128 : Nat) : Int) := by rw [tdiv_pos _ _ (by omega), wr _ (by omega) (by omega)]; omega
      have e2 : (wrap64 (Int.tmod (n : Int) 128 + 128)) % 256 = ((n % 128 + 128 : Nat) : Int) := by rw [tmod_pos _ _ (by omega), wr _ (by omega) (by omega)]; omega
      rw [e1, e2, ih k (n / 128) _ (by omega) (by omega) (by omega) (by simp; omega)]
      conv => rhs; rw [varL, if_pos c]
      simp
    · rw [if_neg (by omega), if_pos (by omega), varL, if_neg c]
      have : (n : Int) % 256 = n := by omega
      rw [this]
theorem spec_var_f (k : Nat) (n : Int) (h0 : 0 ≤ n) (h1 : n ≤ 1000000000) (hk : 1000000001 ≤ k) : spec_l01Var.f k n = some (strOfNums (varL n.toNat)) := by
  have := spec_var 1000000001 k n.toNat [] (by omega) hk (by omega) (by simp)
  rw [Int.toNat_of_nonneg h0] at this
  unfold spec_l01Var.f
  rw [this, List.nil_append]
theorem varL_range : ∀ (d n : Nat), n < d → ∀ x ∈ varL n, 0 ≤ x ∧ x < 256 := by
  intro d
  induction d with
  | zero => intro n h; omega
  | succ d ih =>
    intro n h x hx
    rw [varL] at hx
    split at hx
    · rcases List.mem_cons.mp hx with rfl | hx
      · omega
      · exact ih _ (by omega) x hx
    · rw [List.mem_singleton] at hx
      omega
theorem bl_var (n : Nat) : bl (strOfNums (varL n)) = varL n := bl_str _ (varL_range (n + 1) n (by omega))
theorem varL_len : ∀ (d n : Nat), n < d → 1 ≤ (varL n).length ∧ (varL n).length ≤ n + 1 := by
  intro d
  induction d with
  | zero => intro n h; omega
  | succ d ih =>
    intro n h
    rw [varL]
    split
    · have := ih (n / 128) (by omega)
      simp only [List.length_cons]
      omega
    · simp

-- snippet frame
theorem size_extract (s : ByteArray) (a b : Nat) : (s.extract a b).size ≤ s.size := by
  rw [ByteArray.size_extract]; omega
/-! Frame -/
def frameB (s : ByteArray) : ByteArray := strOfNums (varL s.size) ++ strOfNums (fourL (sumL 4294967295 (bl s))) ++ s
theorem frame_bl (s : ByteArray) : bl (frameB s) = varL s.size ++ fourL (sumL 4294967295 (bl s)) ++ bl s := by
  unfold frameB
  rw [bl_append, bl_append, bl_var, bl_str _ (fourL_range _)]
theorem spec_Frame_f (K : Nat) (s : ByteArray) (hs : s.size ≤ 140737488351232) (hK : 1000000020 ≤ K) : spec_Frame.f K s = some (if 1 ≤ s.size ∧ s.size ≤ 9000 then (frameB s, true) else ((⟨#[]⟩ : ByteArray), false)) := by
  unfold spec_Frame.f spec_l01In.f
  by_cases h1 : 1 ≤ s.size
  · rw [if_pos (show (s.size : Int) ≥ 1 by omega), Option.bind_some]
    by_cases h2 : s.size ≤ 9000
    · have l := varL_len _ (s.size) (Nat.lt_succ_self _)
      rw [if_pos (show decide ((s.size : Int) ≤ 9000) = true by simp; omega), if_pos ⟨h1, h2⟩, spec_var_f _ _ (by omega) (by omega) (by omega), Option.bind_some, spec_SumOf_f _ s (by omega) (by omega), Option.bind_some]
      simp only [spec_l02Four.f, Option.bind_some, Int.toNat_natCast]
      rw [if_pos (by simp only [str_size, List.length_cons, List.length_nil]; omega), if_pos (by simp only [ByteArray.size_append, str_size, List.length_cons, List.length_nil]; omega)]
      rfl
    · rw [if_neg (show ¬ decide ((s.size : Int) ≤ 9000) = true by simp; omega), if_neg (fun h => h2 h.2)]
  · rw [if_neg (show ¬ (s.size : Int) ≥ 1 by omega), Option.bind_some, if_neg (by simp), if_neg (fun h => h1 h.1)]

-- snippet readvar
/-! ReadVar -/
def pw : Nat → Int
  | 0 => 1
  | k + 1 => pw k * 128
def rv : Nat → Nat → Int → Int → List Int → Option (Int × Nat)
  | 0, _, _, _, _ => none
  | _ + 1, _, _, _, [] => none
  | r + 1, k, n, m, b :: l => if b < 128 then (if (b = 0 ∧ 0 < k) ∨ n + b % 128 * m > 1000000000 then none else some (n + b % 128 * m, k + 1)) else rv r (k + 1) (n + b % 128 * m) (m * 128) l
def rvOut (a : Nat) : Option (Int × Nat) → Int × Int × Bool
  | none => (0, 0, false)
  | some x => (x.1, ((a + x.2 : Nat) : Int), true)
theorem pw_succ (k : Nat) : pw (k + 1) = pw k * 128 := by simp only [pw]
theorem pw_vals : pw 0 = 1 ∧ pw 1 = 128 ∧ pw 2 = 16384 ∧ pw 3 = 2097152 ∧ pw 4 = 268435456 ∧ pw 5 = 34359738368 := by decide
attribute [local irreducible] pw
theorem five {k : Nat} (h : k < 5) : k = 0 ∨ k = 1 ∨ k = 2 ∨ k = 3 ∨ k = 4 := by omega
theorem step_range (k : Nat) (hk : k < 5) (n b : Int) (h0 : 0 ≤ n) (h1 : n < pw k) (hb0 : 0 ≤ b) (hb : b < 256) : 0 ≤ b % 128 * pw k ∧ b % 128 * pw k < 34359738368 ∧ 0 ≤ n + b % 128 * pw k ∧ n + b % 128 * pw k < pw (k + 1) ∧ pw (k + 1) ≤ 34359738368 ∧ 0 < pw k := by
  obtain ⟨p0, p1, p2, p3, p4, p5⟩ := pw_vals
  rcases five hk with rfl | rfl | rfl | rfl | rfl <;> simp only [p0, p1, p2, p3, p4, p5] at * <;> omega
theorem shl7 (k : Nat) (hk : k < 5) (x : Int) (h0 : 0 ≤ x) (h1 : x < 128) : shl .i64 x (wrap64 (7 * (k : Int))) = x * pw k := by
  obtain ⟨p0, p1, p2, p3, p4, p5⟩ := pw_vals
  have e : wrap64 (7 * (k : Int)) = ((7 * k : Nat) : Int) := by rw [wr _ (by omega) (by omega)]; omega
  rw [e]
  unfold shl
  rw [IntKind.wrap_i64, Int.toNat_natCast]
  rcases five hk with rfl | rfl | rfl | rfl | rfl
  · rw [p0, show min (7 * 0) IntKind.i64.bits = 0 from rfl]; omega
  · rw [p1, show min (7 * 1) IntKind.i64.bits = 7 from rfl]; omega
  · rw [p2, show min (7 * 2) IntKind.i64.bits = 14 from rfl]; omega
  · rw [p3, show min (7 * 3) IntKind.i64.bits = 21 from rfl]; omega
  · rw [p4, show min (7 * 4) IntKind.i64.bits = 28 from rfl]; omega
theorem impl_rv (s : ByteArray) (a : Nat) (hs : s.size < 140737488355328) : ∀ (r k K : Nat) (n : Int), r + k = 5 → 2 * r + 2 ≤ K → a + k ≤ s.size ∨ r = 0 → 0 ≤ n → n < pw k → a ≤ s.size →
    impl_ReadVar.l0 K s a n k = some (rvOut a (rv r k n (pw k) ((bl s).drop (a + k)))) := by
  intro r
  induction r with
  | zero =>
    intro k K n h hK _ h0 h1 ha
    obtain ⟨K, rfl⟩ : ∃ m, K = m + 2 := ⟨K - 2, by omega⟩
    simp only [impl_ReadVar.l0, impl_ReadVar.j1]
    rw [if_neg (by omega), if_neg (by simp)]
    simp [rv, rvOut]
  | succ r ih =>
    intro k K n h hK hak h0 h1 ha
    have hak : a + k ≤ s.size := by omega
    obtain ⟨K, rfl⟩ : ∃ m, K = m + 2 := ⟨K - 2, by omega⟩
    have q1 : r + (k + 1) = 5 := by omega
    have q2 : 2 * r + 2 ≤ K := by omega
    have e1 : wrap64 ((a : Int) + (k : Int)) = ((a + k : Nat) : Int) := by rw [wr _ (by omega) (by omega)]; omega
    have e2 : wrap64 (7 * (k : Int)) = ((7 * k : Nat) : Int) := by rw [wr _ (by omega) (by omega)]; omega
    simp only [impl_ReadVar.l0, impl_ReadVar.j1]
    rw [if_pos (by omega), e1]
    by_cases c : a + k < s.size
    · have lo := bt_lo s ((a + k : Nat) : Int)
      have hi := bt_hi s ((a + k : Nat) : Int)
      rw [drop_bt s (a + k) c]
      have e4 : shl .i64 (Int.tmod (bt s ((a + k : Nat) : Int)) 128) (wrap64 (7 * (k : Int))) = bt s ((a + k : Nat) : Int) % 128 * pw k := by
        rw [tmod_pos _ _ lo]
        exact shl7 k (by omega) _ (by omega) (by omega)
      obtain ⟨g0, g1, g2, g3, g4, g5⟩ := step_range k (by omega) n _ h0 h1 lo hi
      rw [if_pos (by simp; omega), if_pos (by omega), if_pos (by omega), if_pos (by rw [e2]; omega), wr (bt s ((a + k : Nat) : Int)) (by omega) (by omega), e4, wr _ (by omega) (by omega)]
      simp only [rv]
      generalize hM : bt s ((a + k : Nat) : Int) % 128 * pw k = M at *
      generalize bt s ((a + k : Nat) : Int) = b at *
      generalize n + M = V at *
      by_cases d : b < 128
      · clear hM e4 g0 g1 g2 g3 g4 g5 lo hi h0 h1 ih e2
        rw [if_pos d, if_pos d]
        have e3 : wrap64 (((a + k : Nat) : Int) + 1) = ((a + (k + 1) : Nat) : Int) := by rw [wr _ (by omega) (by omega)]; omega
        rw [e3]
        by_cases z : b = 0
        · rw [if_pos z]
          by_cases z2 : 0 < k
          · rw [if_pos (show (k : Int) > 0 by omega), if_pos (Or.inl ⟨z, z2⟩)]; simp only [rvOut]
          · rw [if_neg (show ¬ (k : Int) > 0 by omega)]
            by_cases g : V > 1000000000
            · rw [if_pos g, if_pos (Or.inr g)]; simp only [rvOut]
            · rw [if_neg g, if_neg (fun q => q.elim (fun q => z2 q.2) g)]; simp only [rvOut]
        · rw [if_neg z]
          by_cases g : V > 1000000000
          · rw [if_pos g, if_pos (Or.inr g)]; simp only [rvOut]
          · rw [if_neg g, if_neg (fun q => q.elim (fun q => z q.1) g)]; simp only [rvOut]
      · clear hM e4 g0 g1 g4 g5 e2
        rw [if_neg d, if_neg d]
        have e3 : wrap64 ((k : Int) + 1) = ((k + 1 : Nat) : Int) := by rw [wr _ (by omega) (by omega)]; omega
        rw [e3, ih (k + 1) K _ q1 q2 (Or.inl c) g2 g3 ha, ← Nat.add_assoc]
        rw [pw_succ]
    · rw [if_neg (by simp; omega), drop_end s (a + k) (by omega)]
      simp [rv, rvOut]
theorem impl_ReadVar_f (K : Nat) (s : ByteArray) (a : Int) (hs : s.size < 140737488355328) (h0 : 0 ≤ a) (h1 : a ≤ s.size) (hK : 12 ≤ K) : impl_ReadVar.f K s a = some (rvOut a.toNat (rv 5 0 0 1 ((bl s).drop a.toNat))) := by
  obtain ⟨a, rfl⟩ := Int.eq_ofNat_of_zero_le h0
  have := impl_rv s a hs 5 0 K 0 (by omega) (by omega) (by omega) (by omega) (by rw [pw_vals.1]; decide) (by omega)
  unfold impl_ReadVar.f impl_in.f
  rw [if_pos (by omega)]
  simp only [Option.bind_some]
  rw [if_pos (by simp; omega)]
  simpa [pw_vals.1] using this
theorem impl_ReadVar_bad (K : Nat) (s : ByteArray) (a : Int) (h : a < 0 ∨ (s.size : Int) < a) : impl_ReadVar.f K s a = some (0, 0, false) := by
  unfold impl_ReadVar.f impl_in.f
  split
  · simp only [Option.bind_some]; rw [if_neg (by simp; omega)]
  · simp only [Option.bind_some]; rw [if_neg (by simp)]
/-! what is read is what was written -/
def val : List Int → Int
  | [] => 0
  | b :: l => b % 128 + 128 * val l
theorem val_nonneg : ∀ l : List Int, 0 ≤ val l
  | [] => by simp [val]
  | b :: l => by have := val_nonneg l; simp only [val]; omega
theorem val_pos : ∀ (p : List Int) (b : Int), 0 < b → b < 128 → 0 < val (p ++ [b])
  | [], b, h, h1 => by simp only [List.nil_append, val]; omega
  | x :: p, b, h, h1 => by have := val_pos p b h h1; simp only [List.cons_append, val]; omega
theorem val_snoc : ∀ (p : List Int) (b : Int), val (p ++ [b]) = val p + b % 128 * pw p.length
  | [], b => by simp [val, pw_vals.1]
  | x :: p, b => by
    have := val_snoc p b
    simp only [List.cons_append, val, this, List.length_cons, pw_succ]
    rw [Int.mul_add, Int.mul_comm 128 (b % 128 * pw p.length), Int.mul_assoc]
    omega
theorem varL_val : ∀ (p : List Int) (b : Int), (∀ x ∈ p, 128 ≤ x ∧ x < 256) → 0 ≤ b → b < 128 → (p = [] ∨ b ≠ 0) → varL (val (p ++ [b])).toNat = p ++ [b]
  | [], b, _, h0, h1, _ => by
    simp only [List.nil_append, val]
    rw [varL, if_neg (by omega)]
    congr 1; omega
  | x :: p, b, hp, h0, h1, hb => by
    have hb : b ≠ 0 := by rcases hb with h | h; · cases h
                          · exact h
    have v := val_pos p b (by omega) h1
    have hx := hp x (by simp)
    have ih := varL_val p b (fun y hy => hp y (by simp [hy])) h0 h1 (Or.inr hb)
    simp only [List.cons_append, val]
    rw [varL, if_pos (by omega)]
    have e1 : (x % 128 + 128 * val (p ++ [b])).toNat / 128 = (val (p ++ [b])).toNat := by omega
    rw [e1, ih]
    congr 1; omega
theorem varL_no0 : ∀ (d n : Nat) (p : List Int), n < d → varL n = p ++ [0] → n = 0 ∧ p = [] := by
  intro d
  induction d with
  | zero => intro n p h; omega
  | succ d ih =>
    intro n p h e
    rw [varL] at e
    split at e
    · cases p with
      | nil =>
        have := (varL_len _ (n / 128) (Nat.lt_succ_self _)).1
        simp only [List.nil_append, List.cons.injEq] at e
        rw [e.2] at this
        simp at this
      | cons x p =>
        simp only [List.cons_append, List.cons.injEq] at e
        have := (ih (n / 128) p (by omega) e.2).1
        omega
    · cases p with
      | nil => simp at e; exact ⟨by omega, rfl⟩
      | cons x p => simp at e
theorem rv_bounds : ∀ (r k : Nat) (n m : Int) (l : List Int), 0 ≤ n → 0 ≤ m → (∀ x ∈ l, 0 ≤ x ∧ x < 256) → ∀ q j, rv r k n m l = some (q, j) → 0 ≤ q ∧ q ≤ 1000000000 ∧ k < j ∧ j ≤ k + r ∧ j ≤ k + l.length
  | 0, _, _, _, _, _, _, _, _, _, h => by simp [rv] at h
  | r + 1, k, n, m, [], _, _, _, _, _, h => by simp [rv] at h
  | r + 1, k, n, m, b :: l, hn, hm, hl, q, j, h => by
    have hb := hl b (by simp)
    have p : 0 ≤ b % 128 * m := Int.mul_nonneg (by omega) hm
    simp only [rv] at h
    by_cases c : b < 128
    · rw [if_pos c] at h
      by_cases z : (b = 0 ∧ 0 < k) ∨ n + b % 128 * m > 1000000000
      · rw [if_pos z] at h; cases h
      · rw [if_neg z] at h
        simp only [Option.some.injEq, Prod.mk.injEq] at h
        obtain ⟨rfl, rfl⟩ := h
        have z2 : ¬ n + b % 128 * m > 1000000000 := fun g => z (Or.inr g)
        refine ⟨Int.add_nonneg hn p, Int.not_lt.mp z2, by omega, by omega, by simp only [List.length_cons]; omega⟩
    · rw [if_neg c] at h
      have := rv_bounds r (k + 1) _ _ l (Int.add_nonneg hn p) (Int.mul_nonneg hm (by decide)) (fun x hx => hl x (by simp [hx])) q j h
      simp only [List.length_cons]
      refine ⟨this.1, this.2.1, ?_, ?_, ?_⟩ <;> omega
theorem rv_var : ∀ (r : Nat) (p l : List Int) (q : Int) (j : Nat), (∀ x ∈ p, 128 ≤ x ∧ x < 256) → (∀ x ∈ l, 0 ≤ x ∧ x < 256) → rv r p.length (val p) (pw p.length) l = some (q, j) → varL q.toNat = (p ++ l).take j
  | 0, _, _, _, _, _, _, h => by simp [rv] at h
  | r + 1, p, [], _, _, _, _, h => by simp [rv] at h
  | r + 1, p, b :: l, q, j, hp, hl, h => by
    have hb := hl b (by simp)
    simp only [rv] at h
    rw [← val_snoc] at h
    by_cases c : b < 128
    · rw [if_pos c] at h
      by_cases z : (b = 0 ∧ 0 < p.length) ∨ val (p ++ [b]) > 1000000000
      · rw [if_pos z] at h; cases h
      · rw [if_neg z] at h
        simp only [Option.some.injEq, Prod.mk.injEq] at h
        obtain ⟨rfl, rfl⟩ := h
        rw [take_snoc_cons]
        refine varL_val p b hp hb.1 c ?_
        cases p with
        | nil => left; rfl
        | cons x p => right; intro e; exact z (Or.inl ⟨e, by simp⟩)
    · rw [if_neg c, ← pw_succ] at h
      have e : (p ++ [b]).length = p.length + 1 := by simp
      rw [← e] at h
      have := rv_var r (p ++ [b]) l q j (by
        intro x hx
        rcases List.mem_append.mp hx with hx | hx
        · exact hp x hx
        · rw [List.mem_singleton] at hx; rw [hx]; omega) (fun x hx => hl x (by simp [hx])) h
      rw [this, List.append_assoc]
      rfl
theorem rv_var0 (l : List Int) (q : Int) (j : Nat) (hl : ∀ x ∈ l, 0 ≤ x ∧ x < 256) (h : rv 5 0 0 1 l = some (q, j)) : varL q.toNat = l.take j := by
  have := rv_var 5 [] l q j (by simp) hl (by simpa [val, pw_vals.1] using h)
  simpa using this
/-- the bytes of a number: all but the last at least 128 -/
theorem varL_form : ∀ (d n : Nat), n < d → ∃ p b, varL n = p ++ [b] ∧ (∀ x ∈ p, 128 ≤ x ∧ x < 256) ∧ 0 ≤ b ∧ b < 128 ∧ (p = [] ∨ b ≠ 0) ∧ val (p ++ [b]) = n := by
  intro d
  induction d with
  | zero => intro n h; omega
  | succ d ih =>
    intro n h
    by_cases c : 127 < n
    · obtain ⟨p, b, e, hp, h0, h1, hb, hv⟩ := ih (n / 128) (by omega)
      refine ⟨((n % 128 + 128 : Nat) : Int) :: p, b, by rw [varL, if_pos c, e]; rfl, ?_, h0, h1, ?_, ?_⟩
      · intro x hx
        rcases List.mem_cons.mp hx with rfl | hx
        · omega
        · exact hp x hx
      · right
        rintro rfl
        have := (varL_no0 _ (n / 128) p (Nat.lt_succ_self _) e).1
        omega
      · simp only [List.cons_append, val, hv]
        omega
    · refine ⟨[], (n : Int), by rw [varL, if_neg c]; rfl, by simp, by omega, by omega, Or.inl rfl, ?_⟩
      simp only [List.nil_append, val]
      omega
theorem rv_go : ∀ (p1 p0 : List Int) (r : Nat) (b : Int) (rest : List Int), (∀ x ∈ p1, 128 ≤ x) → b < 128 → p1.length < r → rv r p0.length (val p0) (pw p0.length) (p1 ++ b :: rest) = if (b = 0 ∧ 0 < (p0 ++ p1).length) ∨ val (p0 ++ p1 ++ [b]) > 1000000000 then none else some (val (p0 ++ p1 ++ [b]), (p0 ++ p1).length + 1)
  | [], p0, r, b, rest, _, hb, hr => by
    obtain ⟨r, rfl⟩ := succ_of hr
    simp only [List.nil_append, rv]
    rw [if_pos hb, ← val_snoc, List.append_nil]
  | x :: p1, p0, r, b, rest, hp, hb, hr => by
    obtain ⟨r, rfl⟩ := succ_of hr
    have hx := hp x (by simp)
    simp only [List.cons_append, rv]
    rw [if_neg (by omega), ← val_snoc, ← pw_succ]
    have := rv_go p1 (p0 ++ [x]) r b rest (fun y hy => hp y (by simp [hy])) hb (by simp only [List.length_cons] at hr; omega)
    have e : (p0 ++ [x]).length = p0.length + 1 := by simp
    rw [e] at this
    rw [this]
    simp [List.append_assoc]
theorem varL_len5 : ∀ (d n : Nat), n < 128 ^ (d + 1) → (varL n).length ≤ d + 1
  | 0, n, h => by
    rw [varL, if_neg (by simp at h; omega)]; simp
  | d + 1, n, h => by
    rw [varL]
    split
    · have := varL_len5 d (n / 128) (by rw [Nat.pow_succ] at h; omega)
      simp only [List.length_cons]; omega
    · simp
theorem rv_read (n : Nat) (rest : List Int) (h : n ≤ 1000000000) : rv 5 0 0 1 (varL n ++ rest) = some ((n : Int), (varL n).length) := by
  obtain ⟨p, b, e, hp, h0, h1, hb, hv⟩ := varL_form _ n (Nat.lt_succ_self _)
  have l5 := varL_len5 4 n (by omega)
  rw [e, List.length_append, List.length_singleton] at l5
  have g := rv_go p [] 5 b rest (fun x hx => (hp x hx).1) h1 (by omega)
  simp only [List.nil_append, List.length_nil, val, pw_vals.1, hv] at g
  rw [e, List.append_assoc]
  simp only [List.singleton_append]
  rw [g, if_neg]
  · simp
  · intro q
    rcases q with ⟨q1, q2⟩ | q
    · rcases hb with hb | hb
      · rw [hb] at q2; simp at q2
      · exact hb q1
    · omega
/-- of a number's bytes that are cut, nothing is read -/
theorem rv_cut : ∀ (p1 : List Int) (r k : Nat) (n m : Int), (∀ x ∈ p1, 128 ≤ x) → rv r k n m p1 = none
  | [], 0, _, _, _, _ => rfl
  | [], _ + 1, _, _, _, _ => rfl
  | x :: p1, 0, _, _, _, _ => rfl
  | x :: p1, r + 1, k, n, m, h => by
    have hx := h x (by simp)
    simp only [rv]
    rw [if_neg (by omega)]
    exact rv_cut p1 r _ _ _ (fun y hy => h y (by simp [hy]))

-- snippet unframe
theorem extract_bl (s : ByteArray) (a n : Nat) : bl (s.extract a (a + n)) = ((bl s).drop a).take n := by
  rw [bl_extract, Nat.add_sub_cancel_left]
theorem extract_size (s : ByteArray) (a n : Nat) (h : a + n ≤ s.size) : (s.extract a (a + n)).size = n := by
  rw [ByteArray.size_extract]; omega
/-- the frame at a place: the text's place and length -/
def uf (s : ByteArray) (a : Nat) : Option (Nat × Nat) :=
  match rv 5 0 0 1 ((bl s).drop a) with
  | none => none
  | some (n, j) => if 1 ≤ n ∧ n ≤ 9000 ∧ a + j + 4 + n.toNat ≤ s.size ∧ ((bl s).drop (a + j)).take 4 = fourL (sumL 4294967295 (((bl s).drop (a + j + 4)).take n.toNat)) then some (a + j + 4, n.toNat) else none
theorem uf_bounds (s : ByteArray) (a b n : Nat) (h : uf s a = some (b, n)) : a < b ∧ b + n ≤ s.size ∧ 1 ≤ n ∧ n ≤ 9000 := by
  unfold uf at h
  have w := rv_bounds 5 0 0 1 ((bl s).drop a) (by decide) (by decide) (fun x hx => bl_range s x (List.mem_of_mem_drop hx))
  cases hv : rv 5 0 0 1 ((bl s).drop a) with
  | none => rw [hv] at h; simp at h
  | some q =>
    obtain ⟨m, j⟩ := q
    have w := w m j hv
    rw [hv] at h
    simp only at h
    split at h
    · rename_i c
      simp only [Option.some.injEq, Prod.mk.injEq] at h
      omega
    · cases h

-- snippet unframe_impl
theorem impl_unf_step (s : ByteArray) (hs : s.size ≤ 20000) (a : Nat) (ha : a ≤ s.size) (K : Nat) (hK : 1000000020 ≤ K) (acc : List ByteArray) (hl : acc.length < 8796093022208) :
    impl_Unframe.l0 (K + 2) s acc a = match uf s a with
      | none => some (acc, (a : Int))
      | some (b, n) => impl_Unframe.l0 K s (acc ++ [s.extract b (b + n)]) ((b + n : Nat) : Int) := by
  have w := rv_bounds 5 0 0 1 ((bl s).drop a) (by decide) (by decide) (fun x hx => bl_range s x (List.mem_of_mem_drop hx))
  have u : impl_Unframe.l0 (K + 2) s acc a = (impl_ReadVar.f (K + 1) s a).bind fun bt136 => (if bt136.2.2 = true then ((impl_in.f bt136.1 1 9000).bind fun t139 => (if t139 = true then (impl_Unframe.j1 (K + 1) s acc a bt136.1 bt136.2.1 (decide (bt136.1 > (wrap64 ((wrap64 ((s.size : Int) - bt136.2.1)) - 4))))) else (impl_Unframe.j1 (K + 1) s acc a bt136.1 bt136.2.1 true))) else (impl_Unframe.j1 (K + 1) s acc a bt136.1 bt136.2.1 true)) := by simp only [impl_Unframe.l0]
  have stop : ∀ n m : Int, impl_Unframe.j1 (K + 1) s acc a n m true = some (acc, (a : Int)) := by
    intro n m
    simp only [impl_Unframe.j1, if_true]
  rw [u, impl_ReadVar_f (K + 1) s a (by omega) (by omega) (by omega) (by omega), Option.bind_some, Int.toNat_natCast]
  unfold uf
  cases hv : rv 5 0 0 1 ((bl s).drop a) with
  | none => simp only [rvOut, Bool.false_eq_true, if_false]; exact stop _ _
  | some q =>
    obtain ⟨n, j⟩ := q
    obtain ⟨w0, w1, w2, w3, w4⟩ := w n j hv
    rw [List.length_drop, bl_len] at w4
    rw [show rvOut a (some (n, j)) = (n, ((a + j : Nat) : Int), true) from rfl]
    dsimp only
    rw [if_pos rfl]
    by_cases r : 1 ≤ n ∧ n ≤ 9000
    · have ri : impl_in.f n 1 9000 = some true := by unfold impl_in.f; rw [if_pos r.1]; simp [r.2]
      rw [ri, Option.bind_some, if_pos rfl]
      rw [wr ((s.size : Int) - ((a + j : Nat) : Int)) (by omega) (by omega), wr ((s.size : Int) - ((a + j : Nat) : Int) - 4) (by omega) (by omega)]
      by_cases g : n > (s.size : Int) - ((a + j : Nat) : Int) - 4
      · rw [show decide (n > (s.size : Int) - ((a + j : Nat) : Int) - 4) = true by simp; omega, stop, if_neg (by omega)]
      · obtain ⟨m, rfl⟩ := Int.eq_ofNat_of_zero_le w0
        rw [show decide (((m : Nat) : Int) > (s.size : Int) - ((a + j : Nat) : Int) - 4) = false by simp; omega]
        simp only [impl_Unframe.j1, Bool.false_eq_true, if_false]
        have e4 : wrap64 (((a + j : Nat) : Int) + 4) = ((a + j + 4 : Nat) : Int) := by rw [wr _ (by omega) (by omega)]; omega
        have e5 : wrap64 (((a + j + 4 : Nat) : Int) + (m : Int)) = ((a + j + 4 + m : Nat) : Int) := by rw [wr _ (by omega) (by omega)]; omega
        have b4 : a + j + 4 + m ≤ s.size := by omega
        have sx := extract_size s (a + j + 4) m b4
        rw [e4, e5, if_pos (show 0 ≤ ((a + j + 4 : Nat) : Int) by omega), if_pos (show ((a + j + 4 : Nat) : Int) ≤ ((a + j + 4 + m : Nat) : Int) by omega), if_pos (show ((a + j + 4 + m : Nat) : Int) ≤ (s.size : Int) by omega), if_pos (show 0 ≤ ((a + j : Nat) : Int) by omega), if_pos (show ((a + j : Nat) : Int) ≤ ((a + j + 4 : Nat) : Int) by omega), if_pos (show ((a + j + 4 : Nat) : Int) ≤ (s.size : Int) by omega)]
        simp only [Int.toNat_natCast]
        rw [impl_SumOf_f K _ (by omega) (by omega), Option.bind_some]
        simp only [impl_fourBytes.f, Option.bind_some]
        have e6 : (s.extract (a + j) (a + j + 4)).toList = (strOfNums [sumL 4294967295 (bl (s.extract (a + j + 4) (a + j + 4 + m))) / 16777216 % 256, sumL 4294967295 (bl (s.extract (a + j + 4) (a + j + 4 + m))) / 65536 % 256, sumL 4294967295 (bl (s.extract (a + j + 4) (a + j + 4 + m))) / 256 % 256, sumL 4294967295 (bl (s.extract (a + j + 4) (a + j + 4 + m))) % 256]).toList ↔ ((bl s).drop (a + j)).take 4 = fourL (sumL 4294967295 (((bl s).drop (a + j + 4)).take m)) := by
          rw [toList_bl, extract_bl, extract_bl]
          rw [show ∀ z, [z / 16777216 % 256, z / 65536 % 256, z / 256 % 256, z % 256] = fourL z from fun _ => rfl, bl_str _ (fourL_range _)]
        by_cases c : ((bl s).drop (a + j)).take 4 = fourL (sumL 4294967295 (((bl s).drop (a + j + 4)).take m))
        · rw [if_pos (e6.mpr c), if_pos hl, if_pos ⟨r.1, r.2, b4, c⟩]
        · rw [if_neg (fun h => c (e6.mp h)), if_neg (fun h => c h.2.2.2)]
    · have ri : impl_in.f n 1 9000 = some false := by
        unfold impl_in.f
        split
        · simp; omega
        · rfl
      rw [ri, Option.bind_some, if_neg (by simp), if_neg (fun h => r ⟨h.1, h.2.1⟩)]
      exact stop _ _
/-- all frames, from a place on -/
def ufs (s : ByteArray) : Nat → Nat → List ByteArray × Nat
  | 0, a => ([], a)
  | d + 1, a => match uf s a with
    | none => ([], a)
    | some (b, n) => (s.extract b (b + n) :: (ufs s d (b + n)).1, (ufs s d (b + n)).2)
theorem impl_unf (s : ByteArray) (hs : s.size ≤ 20000) : ∀ (d a K : Nat) (acc : List ByteArray), a ≤ s.size → s.size < a + d → 1000000020 + 2 * d ≤ K → acc.length + d < 8796093022208 →
    impl_Unframe.l0 K s acc a = some (acc ++ (ufs s d a).1, ((ufs s d a).2 : Int)) := by
  intro d
  induction d with
  | zero => intro a K acc h h1; omega
  | succ d ih =>
    intro a K acc h h1 hK hl
    obtain ⟨K, rfl⟩ : ∃ m, K = m + 2 := ⟨K - 2, by omega⟩
    rw [impl_unf_step s hs a h K (by omega) acc (by omega)]
    simp only [ufs]
    cases hu : uf s a with
    | none => simp
    | some q =>
      obtain ⟨b, n⟩ := q
      have ub := uf_bounds s a b n hu
      simp only
      rw [ih (b + n) K _ (by omega) (by omega) (by omega) (by simp; omega)]
      simp
theorem impl_Unframe_f (K : Nat) (s : ByteArray) (hK : 1000100000 ≤ K) : impl_Unframe.f K s = some (if s.size ≤ 20000 then ((ufs s (s.size + 1) 0).1, ((ufs s (s.size + 1) 0).2 : Int)) else ([], 0)) := by
  unfold impl_Unframe.f
  by_cases h : s.size ≤ 20000
  · rw [if_neg (show ¬ (s.size : Int) > 20000 by omega), if_pos h]
    have := impl_unf s h (s.size + 1) 0 K [] (by omega) (by omega) (by omega) (by simp; omega)
    simpa using this
  · rw [if_pos (show (s.size : Int) > 20000 by omega), if_neg h]
theorem ufs_len (s : ByteArray) : ∀ (d a : Nat), (ufs s d a).1.length ≤ d
  | 0, _ => by simp [ufs]
  | d + 1, a => by
    simp only [ufs]
    split
    · simp
    · have := ufs_len s d
      simp only [List.length_cons]
      have := ufs_len s d
      exact Nat.succ_le_succ (this _)

-- snippet readvar_spec
theorem spec_rv (s : ByteArray) (a : Nat) (hs : s.size < 140737488355328) : ∀ (r k K : Nat) (p : List Int), r + k = 5 → 1000000001 + 2 * r + 2 ≤ K → a + k ≤ s.size ∨ r = 0 → a ≤ s.size → p.length = k → (∀ x ∈ p, 128 ≤ x ∧ x < 256) → (a + k ≤ s.size → (bl s).drop a = p ++ (bl s).drop (a + k)) → val p < pw k →
    spec_ReadVar.l0 K s a (val p) (pw k) ((a + k : Nat) : Int) = some (rvOut a (rv r k (val p) (pw k) ((bl s).drop (a + k)))) := by
  intro r
  induction r with
  | zero =>
    intro k K p h hK _ ha hp hpx hd hv
    obtain ⟨K, rfl⟩ : ∃ m, K = m + 2 := ⟨K - 2, by omega⟩
    have e0 : wrap64 ((a : Int) + 5) = ((a + 5 : Nat) : Int) := by rw [wr _ (by omega) (by omega)]; omega
    simp only [spec_ReadVar.l0, spec_ReadVar.j1]
    rw [e0]
    have e1 : decide (((a + k : Nat) : Int) < ((a + 5 : Nat) : Int)) = false := by simp; omega
    rw [e1]
    simp [rv, rvOut]
  | succ r ih =>
    intro k K p h hK hak ha hp hpx hd hv
    have hak : a + k ≤ s.size := by omega
    have hd := hd hak
    have q1 : r + (k + 1) = 5 := by omega
    have q2 : 1000000001 + 2 * r + 2 ≤ K - 2 := by omega
    have h0 := val_nonneg p
    obtain ⟨K, rfl⟩ : ∃ m, K = m + 2 := ⟨K - 2, by omega⟩
    have e0 : wrap64 ((a : Int) + 5) = ((a + 5 : Nat) : Int) := by rw [wr _ (by omega) (by omega)]; omega
    simp only [spec_ReadVar.l0, spec_ReadVar.j1]
    rw [e0]
    by_cases c : a + k < s.size
    · have c1 : ((a + k : Nat) : Int) < (s.size : Int) := by omega
      have t1 : (a : Int) ≤ ((a + (k + 1) : Nat) : Int) := by omega
      have t2 : ((a + (k + 1) : Nat) : Int) ≤ (s.size : Int) := by omega
      have t4 : 1000000001 ≤ K := by omega
      have c0 : 0 ≤ ((a + k : Nat) : Int) := Int.natCast_nonneg _
      have lo := bt_lo s ((a + k : Nat) : Int)
      have hi := bt_hi s ((a + k : Nat) : Int)
      have db := drop_bt s (a + k) c
      have e1 : decide (((a + k : Nat) : Int) < ((a + 5 : Nat) : Int)) = true := by simp; omega
      obtain ⟨g0, g1, g2, g3, g4, g5⟩ := step_range k (by omega) (val p) _ h0 hv lo hi
      have vs := val_snoc p (bt s ((a + k : Nat) : Int))
      rw [hp] at vs
      have e3 : wrap64 (((a + k : Nat) : Int) + 1) = ((a + (k + 1) : Nat) : Int) := by rw [wr _ (by omega) (by omega)]; omega
      have w1 : wrap64 (bt s ((a + k : Nat) : Int)) = bt s ((a + k : Nat) : Int) := wr _ (by omega) (by omega)
      have w2 : wrap64 (bt s ((a + k : Nat) : Int) % 128 * pw k) = bt s ((a + k : Nat) : Int) % 128 * pw k := wr _ (by omega) (by omega)
      have w3 : wrap64 (val p + bt s ((a + k : Nat) : Int) % 128 * pw k) = val p + bt s ((a + k : Nat) : Int) % 128 * pw k := wr _ (by omega) (by omega)
      rw [if_pos c1, e1, if_pos rfl, if_pos c0, if_pos c1, w1, tmod_pos _ _ lo, w2, w3, e3, db]
      clear w1 w2 w3
      simp only [rv]
      have t5 : pw (k + 1) ≤ 9223372036854775807 := Int.le_trans g4 (by decide)
      have t6 : 0 ≤ pw (k + 1) := Int.le_trans g2 (Int.le_of_lt g3)
      have tk : bl (s.extract (a : Int).toNat ((a + (k + 1) : Nat) : Int).toNat) = p ++ [bt s ((a + k : Nat) : Int)] := by
        rw [bl_extract, Int.toNat_natCast, Int.toNat_natCast, hd, db, show a + (k + 1) - a = p.length + 1 by rw [hp]; exact Nat.add_sub_cancel_left .., take_snoc_cons]
      have pl : (p ++ [bt s ((a + k : Nat) : Int)]).length = k + 1 := by simp [hp]
      generalize bt s ((a + k : Nat) : Int) = b at *
      generalize hV : val p + b % 128 * pw k = V at *
      clear g0 g1 g4 g5 e0 e1 hs h hK hak
      by_cases d : b < 128
      · rw [if_pos d, if_pos d]
        by_cases g : V > 1000000000
        · rw [if_pos g, if_pos (Or.inr g)]; simp only [rvOut]
        · rw [if_neg g, spec_var_f _ _ g2 (Int.not_lt.mp g) t4]
          simp only [Option.bind_some]
          rw [if_pos (Int.natCast_nonneg a), if_pos t1, if_pos t2]
          by_cases z : b = 0 ∧ 0 < k
          · have ne : ¬ (strOfNums (varL V.toNat)).toList = (s.extract (a : Int).toNat ((a + (k + 1) : Nat) : Int).toNat).toList := by
              rw [toList_bl, bl_var, tk, z.1]
              intro e
              have := (varL_no0 _ _ _ (Nat.lt_succ_self _) e).2
              rw [this] at hp
              simp at hp
              exact absurd z.2 (by rw [← hp]; simp)
            rw [if_neg ne, if_pos (Or.inl z)]; simp only [rvOut]
          · have eq : (strOfNums (varL V.toNat)).toList = (s.extract (a : Int).toNat ((a + (k + 1) : Nat) : Int).toNat).toList := by
              rw [toList_bl, bl_var, tk, ← vs]
              refine varL_val p b hpx lo d ?_
              rcases Nat.eq_zero_or_pos k with k0 | k0
              · left; exact List.eq_nil_of_length_eq_zero (hp.trans k0)
              · right; intro z2; exact z ⟨z2, k0⟩
            rw [if_pos eq, if_neg (fun q => q.elim z g)]; simp only [rvOut]
      · rw [if_neg d, if_neg d, ← vs]
        have dl : (bl s).drop a = (p ++ [b]) ++ (bl s).drop (a + (k + 1)) := by
          rw [hd, db]
          simp [Nat.add_assoc]
        have := ih (k + 1) K (p ++ [b]) q1 (by rw [Nat.add_sub_cancel] at q2; exact q2) (Or.inl c) ha pl (by
          intro x hx
          rcases List.mem_append.mp hx with hx | hx
          · exact hpx x hx
          · rw [List.mem_singleton] at hx; rw [hx]; exact ⟨Int.not_lt.mp d, hi⟩) (fun _ => dl) (by rw [vs]; exact g3)
        rw [show wrap64 (pw k * 128) = pw (k + 1) from (wr _ (by rw [pw_succ] at t6; omega) (by rw [pw_succ] at t5; omega)).trans (pw_succ k).symm]
        rw [pw_succ k] at this
        rw [pw_succ k]
        rw [show a + (k + 1) = a + k + 1 from rfl] at this ⊢
        exact this
    · have e1 : ¬ ((a + k : Nat) : Int) < (s.size : Int) := by omega
      rw [if_neg e1, drop_end s (a + k) (by omega)]
      simp [rv, rvOut]
theorem spec_ReadVar_f (K : Nat) (s : ByteArray) (a : Int) (hs : s.size < 140737488355328) (h0 : 0 ≤ a) (h1 : a ≤ s.size) (hK : 1000000020 ≤ K) : spec_ReadVar.f K s a = some (rvOut a.toNat (rv 5 0 0 1 ((bl s).drop a.toNat))) := by
  obtain ⟨a, rfl⟩ := Int.eq_ofNat_of_zero_le h0
  have := spec_rv s a hs 5 0 K [] (by omega) (by omega) (by omega) (by omega) rfl (by simp) (by simp) (by rw [pw_vals.1]; decide)
  unfold spec_ReadVar.f spec_l01In.f
  rw [if_pos (by omega)]
  simp only [Option.bind_some]
  rw [if_pos (by simp; omega)]
  simpa [val, pw_vals.1] using this
theorem spec_ReadVar_bad (K : Nat) (s : ByteArray) (a : Int) (h : a < 0 ∨ (s.size : Int) < a) : spec_ReadVar.f K s a = some (0, 0, false) := by
  unfold spec_ReadVar.f spec_l01In.f
  split
  · simp only [Option.bind_some]; rw [if_neg (by simp; omega)]
  · simp only [Option.bind_some]; rw [if_neg (by simp)]
theorem ReadVar_all (K : Nat) (s : ByteArray) (a : Int) (hs : s.size < 140737488355328) (hK : 1000000020 ≤ K) : ∃ r, spec_ReadVar.f K s a = some r ∧ impl_ReadVar.f K s a = some r := by
  by_cases h : 0 ≤ a ∧ a ≤ s.size
  · exact ⟨_, spec_ReadVar_f K s a hs h.1 h.2 hK, impl_ReadVar_f K s a hs h.1 h.2 (by omega)⟩
  · exact ⟨_, spec_ReadVar_bad K s a (by omega), impl_ReadVar_bad K s a (by omega)⟩

-- snippet unframe_spec
theorem spec_unf_step (s : ByteArray) (hs : s.size ≤ 20000) (a : Nat) (ha : a ≤ s.size) (K : Nat) (hK : 1000000020 ≤ K) (acc : List ByteArray) (hl : acc.length < 8796093022208) :
    spec_Unframe.l0 (K + 2) s acc a = match uf s a with
      | none => some (acc, (a : Int))
      | some (b, n) => spec_Unframe.l0 K s (acc ++ [s.extract b (b + n)]) ((b + n : Nat) : Int) := by
  have w := rv_bounds 5 0 0 1 ((bl s).drop a) (by decide) (by decide) (fun x hx => bl_range s x (List.mem_of_mem_drop hx))
  have u : spec_Unframe.l0 (K + 2) s acc a = if (a : Int) < (s.size : Int) then ((spec_ReadVar.f (K + 1) s a).bind fun bt123 => (if bt123.2.2 = true then (spec_Unframe.j1 (K + 1) s acc a bt123.1 bt123.2.1 (decide (bt123.1 > (wrap64 ((wrap64 ((s.size : Int) - bt123.2.1)) - 4))))) else (spec_Unframe.j1 (K + 1) s acc a bt123.1 bt123.2.1 true))) else (some (acc, (a : Int))) := by simp only [spec_Unframe.l0]
  have stop : ∀ n m : Int, spec_Unframe.j1 (K + 1) s acc a n m true = some (acc, (a : Int)) := by
    intro n m
    simp only [spec_Unframe.j1, if_true]
  rw [u]
  by_cases hlt : (a : Int) < (s.size : Int)
  · rw [if_pos hlt, spec_ReadVar_f (K + 1) s a (by omega) (by omega) (by omega) (by omega), Option.bind_some, Int.toNat_natCast]
    unfold uf
    cases hv : rv 5 0 0 1 ((bl s).drop a) with
    | none => simp only [rvOut, Bool.false_eq_true, if_false]; exact stop _ _
    | some q =>
      obtain ⟨n, j⟩ := q
      obtain ⟨w0, w1, w2, w3, w4⟩ := w n j hv
      have vv := rv_var0 _ n j (fun x hx => bl_range s x (List.mem_of_mem_drop hx)) hv
      rw [List.length_drop, bl_len] at w4
      rw [show rvOut a (some (n, j)) = (n, ((a + j : Nat) : Int), true) from rfl]
      dsimp only
      rw [if_pos rfl]
      rw [wr ((s.size : Int) - ((a + j : Nat) : Int)) (by omega) (by omega), wr ((s.size : Int) - ((a + j : Nat) : Int) - 4) (by omega) (by omega)]
      by_cases g : n > (s.size : Int) - ((a + j : Nat) : Int) - 4
      · rw [show decide (n > (s.size : Int) - ((a + j : Nat) : Int) - 4) = true by simp; omega, stop, if_neg (by omega)]
      · obtain ⟨m, rfl⟩ := Int.eq_ofNat_of_zero_le w0
        rw [show decide (((m : Nat) : Int) > (s.size : Int) - ((a + j : Nat) : Int) - 4) = false by simp; omega]
        simp only [spec_Unframe.j1, Bool.false_eq_true, if_false]
        have e4 : wrap64 (((a + j : Nat) : Int) + 4) = ((a + j + 4 : Nat) : Int) := by rw [wr _ (by omega) (by omega)]; omega
        have e5 : wrap64 (((a + j + 4 : Nat) : Int) + (m : Int)) = ((a + j + 4 + m : Nat) : Int) := by rw [wr _ (by omega) (by omega)]; omega
        have b4 : a + j + 4 + m ≤ s.size := by omega
        have sx := extract_size s (a + j + 4) m b4
        rw [e4, e5, if_pos (show 0 ≤ ((a + j + 4 : Nat) : Int) by omega), if_pos (show ((a + j + 4 : Nat) : Int) ≤ ((a + j + 4 + m : Nat) : Int) by omega), if_pos (show ((a + j + 4 + m : Nat) : Int) ≤ (s.size : Int) by omega)]
        simp only [Int.toNat_natCast]
        rw [spec_Frame_f K _ (by omega) (by omega), Option.bind_some, sx]
        by_cases r : 1 ≤ m ∧ m ≤ 9000
        · rw [if_pos r]
          simp only [if_true]
          rw [if_pos (show 0 ≤ (a : Int) by omega), if_pos (show (a : Int) ≤ ((a + j + 4 + m : Nat) : Int) by omega)]
          have dsplit : ((bl s).drop a).take (j + (4 + m)) = ((bl s).drop a).take j ++ (((bl s).drop (a + j)).take 4 ++ ((bl s).drop (a + j + 4)).take m) := by
            rw [List.take_add, List.drop_drop, List.take_add, List.drop_drop]
          have e6 : (frameB (s.extract (a + j + 4) (a + j + 4 + m))).toList = (s.extract a (a + j + 4 + m)).toList ↔ ((bl s).drop (a + j)).take 4 = fourL (sumL 4294967295 (((bl s).drop (a + j + 4)).take m)) := by
            rw [toList_bl, frame_bl, sx, extract_bl, show a + j + 4 + m = a + (j + (4 + m)) by omega, extract_bl, dsplit, ← vv, Int.toNat_natCast, List.append_assoc, List.append_cancel_left_eq, List.append_cancel_right_eq]
            exact eq_comm
          by_cases c : ((bl s).drop (a + j)).take 4 = fourL (sumL 4294967295 (((bl s).drop (a + j + 4)).take m))
          · rw [if_pos (e6.mpr c), if_pos hl, if_pos ⟨by omega, by omega, b4, c⟩]
          · rw [if_neg (fun h => c (e6.mp h)), if_neg (fun h => c h.2.2.2)]
        · rw [if_neg r]
          simp only [Bool.false_eq_true, if_false]
          rw [if_neg (fun h => r ⟨by omega, by omega⟩)]
  · rw [if_neg hlt]
    have : uf s a = none := by
      unfold uf
      rw [drop_end s a (by omega)]
      rfl
    rw [this]
theorem spec_unf (s : ByteArray) (hs : s.size ≤ 20000) : ∀ (d a K : Nat) (acc : List ByteArray), a ≤ s.size → s.size < a + d → 1000000020 + 2 * d ≤ K → acc.length + d < 8796093022208 →
    spec_Unframe.l0 K s acc a = some (acc ++ (ufs s d a).1, ((ufs s d a).2 : Int)) := by
  intro d
  induction d with
  | zero => intro a K acc h h1; omega
  | succ d ih =>
    intro a K acc h h1 hK hl
    obtain ⟨K, rfl⟩ : ∃ m, K = m + 2 := ⟨K - 2, by omega⟩
    rw [spec_unf_step s hs a h K (by omega) acc (by omega)]
    simp only [ufs]
    cases hu : uf s a with
    | none => simp
    | some q =>
      obtain ⟨b, n⟩ := q
      have ub := uf_bounds s a b n hu
      simp only
      rw [ih (b + n) K _ (by omega) (by omega) (by omega) (by simp; omega)]
      simp
theorem spec_Unframe_f (K : Nat) (s : ByteArray) (hK : 1000100000 ≤ K) : spec_Unframe.f K s = some (if s.size ≤ 20000 then ((ufs s (s.size + 1) 0).1, ((ufs s (s.size + 1) 0).2 : Int)) else ([], 0)) := by
  unfold spec_Unframe.f
  rw [Option.bind_some]
  by_cases h : s.size ≤ 20000
  · rw [if_neg (show ¬ (s.size : Int) > 20000 by omega), if_pos h]
    have := spec_unf s h (s.size + 1) 0 K [] (by omega) (by omega) (by omega) (by simp; omega)
    simpa using this
  · rw [if_pos (show (s.size : Int) > 20000 by omega), if_neg h]

-- snippet marks
/-! marks in a list of texts -/
theorem markText_some : ∀ (d K : Nat) (n : Int) (x : ByteArray), 0 ≤ n → n < d → d < 4611686018427387904 → d ≤ K → x.size + d < 4611686018427387904 → ∃ t, laws_markText.l0 K n x = some t := by
  intro d
  induction d with
  | zero => intro K n x h h1; omega
  | succ d ih =>
    intro K n x h h1 hd hK hx
    obtain ⟨K, rfl⟩ := succ_of hK
    simp only [laws_markText.l0]
    by_cases c : n > 0
    · have e : wrap64 (Int.tdiv n 10) = n / 10 := by rw [tdiv_pos _ _ h, wr _ (by omega) (by omega)]
      rw [if_pos c, Option.bind_some, if_pos (by simp only [str_size, List.length_cons, List.length_nil]; omega), e]
      exact ih K (n / 10) _ (by omega) (by omega) (by omega) (by omega) (by simp only [ByteArray.size_append, str_size, List.length_cons, List.length_nil]; omega)
    · rw [if_neg c, if_pos (by omega)]
      exact ⟨_, rfl⟩
noncomputable def mt (n : Nat) : ByteArray := (laws_markText.f (n + 1) n).getD (⟨#[]⟩ : ByteArray)
theorem mt_of (n K : Nat) (h : n < 1000000000000) (hK : n + 1 ≤ K) : laws_markText.f K n = some (mt n) := by
  have : ∃ t, laws_markText.f (n + 1) n = some t := by
    unfold laws_markText.f
    split
    · exact ⟨_, rfl⟩
    · exact markText_some (n + 1) (n + 1) n _ (by omega) (by omega) (by omega) (Nat.le_refl _) (by rw [show (⟨#[]⟩ : ByteArray).size = 0 from rfl]; omega)
  obtain ⟨t, ht⟩ := this
  have e : mt n = t := by unfold mt; rw [ht]; rfl
  rw [e]
  exact at_rounds (fun k => laws_markText.mono _ k) hK ht
noncomputable def mks (c : Nat) : Nat → List ByteArray
  | 0 => []
  | n + 1 => mt c :: mks (c + 1) n
theorem mks_len : ∀ (n c : Nat), (mks c n).length = n
  | 0, _ => rfl
  | n + 1, c => by simp only [mks, List.length_cons, mks_len n]
theorem mark_l0 : ∀ (rest done : List ByteArray) (K c : Nat), done.length + rest.length < 1000000000 → c + rest.length < 1000000000 → c + 2 * rest.length + 2 ≤ K →
    laws_markStringS.l0 K (done ++ rest) c done.length = some (((c + rest.length : Nat) : Int), done ++ mks c rest.length)
  | [], done, K, c, h, h1, hK => by
    obtain ⟨K, rfl⟩ : ∃ m, K = m + 1 := ⟨K - 1, by omega⟩
    simp only [laws_markStringS.l0]
    rw [if_neg (by simp)]
    simp [mks]
  | x :: rest, done, K, c, h, h1, hK => by
    simp only [List.length_cons] at h h1 hK
    obtain ⟨K, rfl⟩ : ∃ m, K = m + 1 := ⟨K - 1, by omega⟩
    simp only [laws_markStringS.l0]
    rw [if_pos (by simp only [List.length_append, List.length_cons]; omega), mt_of c K (by omega) (by omega), Option.bind_some, if_pos (by omega), wr _ (by omega) (by omega), wr _ (by omega) (by omega), Int.toNat_natCast]
    have e : (done ++ x :: rest).set done.length (mt c) = (done ++ [mt c]) ++ rest := by simp [List.set_append]
    have := mark_l0 rest (done ++ [mt c]) K (c + 1) (by simp only [List.length_append, List.length_cons, List.length_nil]; omega) (by omega) (by omega)
    rw [List.length_append] at this
    rw [e]
    rw [show ((c : Int) + 1) = ((c + 1 : Nat) : Int) by omega, show ((done.length : Int) + 1) = ((done.length + [mt c].length : Nat) : Int) by simp, this]
    simp [mks]
    omega
theorem held_l0 : ∀ (n : Nat) (done : List ByteArray) (K c : Nat), done.length + n < 1000000000 → c + n < 1000000000 → c + 2 * n + 2 ≤ K →
    laws_heldStringS.l0 K (done ++ mks c n) c done.length = some ((c + n : Nat) : Int)
  | 0, done, K, c, h, h1, hK => by
    obtain ⟨K, rfl⟩ : ∃ m, K = m + 1 := ⟨K - 1, by omega⟩
    simp only [laws_heldStringS.l0]
    rw [if_neg (by simp [mks])]
    simp
  | n + 1, done, K, c, h, h1, hK => by
    obtain ⟨K, rfl⟩ : ∃ m, K = m + 1 := ⟨K - 1, by omega⟩
    simp only [laws_heldStringS.l0]
    have g : rdOf ByteArray.empty (done ++ mks c (n + 1)) (done.length : Int) = mt c := by simp [rdOf, mks]
    rw [if_pos (by simp only [List.length_append, mks_len]; omega), if_pos (by omega), mt_of c K (by omega) (by omega), Option.bind_some, g, if_pos rfl, wr _ (by omega) (by omega), wr _ (by omega) (by omega)]
    have := held_l0 n (done ++ [mt c]) K (c + 1) (by simp only [List.length_append, List.length_cons, List.length_nil]; omega) (by omega) (by omega)
    rw [List.length_append] at this
    have e : done ++ mks c (n + 1) = (done ++ [mt c]) ++ mks (c + 1) n := by simp [mks]
    rw [e, show ((c : Int) + 1) = ((c + 1 : Nat) : Int) by omega, show ((done.length : Int) + 1) = ((done.length + [mt c].length : Nat) : Int) by simp, this]
    congr 1
    omega
theorem mark_f (l : List ByteArray) (K : Nat) (h : l.length < 100000000) (hK : 2 * l.length + 10 ≤ K) : laws_markStringS.f K l 1 = some (((1 + l.length : Nat) : Int), mks 1 l.length) := by
  have := mark_l0 l [] K 1 (by simp; omega) (by omega) (by omega)
  unfold laws_markStringS.f
  simpa using this
theorem held_f (n K : Nat) (h : n < 100000000) (hK : 2 * n + 10 ≤ K) : laws_heldStringS.f K (mks 1 n) 1 = some ((1 + n : Nat) : Int) := by
  have := held_l0 n [] K 1 (by simp; omega) (by omega) (by omega)
  unfold laws_heldStringS.f
  simpa using this
theorem eqS_l0 (l : List ByteArray) (h : l.length < 1000000000) : ∀ (d K i : Nat), i + d = l.length → d < K → laws_eqStringS.l0 K l l i = some true := by
  intro d
  induction d with
  | zero =>
    intro K i hi hK
    obtain ⟨K, rfl⟩ := succ_of hK
    simp only [laws_eqStringS.l0]
    rw [if_neg (by omega)]
  | succ d ih =>
    intro K i hi hK
    obtain ⟨K, rfl⟩ := succ_of hK
    simp only [laws_eqStringS.l0]
    rw [if_pos (by omega), if_pos (by omega), if_pos (by omega), if_true, wr _ (by omega) (by omega), show ((i : Int) + 1) = ((i + 1 : Nat) : Int) by omega]
    exact ih K (i + 1) (by omega) (by omega)
theorem eqS_f (l : List ByteArray) (K : Nat) (h : l.length < 1000000000) (hK : l.length < K) : laws_eqStringS.f K l l = some true := by
  have := eqS_l0 l h l.length K 0 (by omega) hK
  unfold laws_eqStringS.f
  rw [if_pos rfl]
  simpa using this

theorem FnExactUnframe : laws_FnExactUnframe.Pure := by
  intro s hs
  refine ⟨1000100020, ?_⟩
  unfold laws_FnExactUnframe.f
  by_cases h : (s.size : Int) > 1048576
  · rw [if_pos h]
  · rw [if_neg h, spec_Unframe_f _ s (by omega), impl_Unframe_f _ s (by omega), Option.bind_some, Option.bind_some]
    have e4 := impl_Unframe_f 1000100019 s (by omega)
    have hr : (if s.size ≤ 20000 then ((ufs s (s.size + 1) 0).1, ((ufs s (s.size + 1) 0).2 : Int)) else ([], 0)).1.length ≤ 20001 := by
      split
      · have := ufs_len s (s.size + 1) 0
        simp only
        omega
      · simp
    generalize (if s.size ≤ 20000 then ((ufs s (s.size + 1) 0).1, ((ufs s (s.size + 1) 0).2 : Int)) else ([], 0)) = r at *
    have f1 : (r.2 != r.2) = false := by simp
    rw [eqS_f _ _ (by omega) (by omega), Option.bind_some, if_pos rfl, f1]
    simp only [laws_FnExactUnframe.j0, Bool.false_eq_true, if_false]
    rw [mark_f _ _ (by omega) (by omega), Option.bind_some]
    simp only []
    rw [held_f _ _ (by omega) (by omega), Option.bind_some, if_neg (show ¬ ((1 + r.1.length : Nat) : Int) < 0 by omega), if_pos rfl, e4, Option.bind_some, eqS_f _ _ (by omega) (by omega), Option.bind_some, if_pos rfl, f1]
    simp only [laws_FnExactUnframe.j1, Bool.false_eq_true, if_false]
    rw [held_f _ _ (by omega) (by omega), Option.bind_some, if_neg (show ¬ ((1 + r.1.length : Nat) : Int) < 0 by omega), if_pos rfl]

end Go.Proofs.Ytkfggpcljndnoaa.Pure
