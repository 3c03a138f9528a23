/- Of every text the program's Frame and the reference's give the same text and flag. No condition but the form's own bound on a text's size. -/
import Derived.Test.YtkfggpcljndnoaaPFnExactFramex2
set_option linter.unusedVariables false
set_option linter.unusedSimpArgs false
namespace Go.Proofs.Ytkfggpcljndnoaa.Pure
open Go.RowKit Go.Proofs.Ytkfggpcljndnoaa.PFnExactFrame Go.Proofs.YtkfggpcljndnoaaW.PrintWords Go.Proofs.YtkfggpcljndnoaaW.PrintLast Go.Proofs.YtkfggpcljndnoaaW.PrintMore

-- snippet plain
/-! bytes as numbers -/
def bl (s : ByteArray) : List Int := s.data.toList.map fun b => (b.toNat : Int)
theorem bl_len (s : ByteArray) : (bl s).length = s.size := by unfold bl; rw [List.length_map, Array.length_toList]; rfl
theorem map_u8_inj : ∀ {a b : List UInt8}, a.map (fun b => (b.toNat : Int)) = b.map (fun b => (b.toNat : Int)) → a = b
  | [], [], _ => rfl
  | [], _ :: _, h => by simp at h
  | _ :: _, [], h => by simp at h
  | x :: a, y :: b, h => by
    simp only [List.map_cons, List.cons.injEq] at h
    have e : x = y := UInt8.toNat_inj.mp (by omega)
    rw [e, map_u8_inj h.2]
theorem bl_inj {s t : ByteArray} (h : bl s = bl t) : s = t := by
  have := map_u8_inj h
  cases s; cases t
  simp only [ByteArray.mk.injEq] at *
  exact Array.toList_inj.mp this
theorem bl_eq {s t : ByteArray} : s = t ↔ bl s = bl t := ⟨fun h => by rw [h], bl_inj⟩
theorem toList_bl {s t : ByteArray} : s.toList = t.toList ↔ bl s = bl t := by
  rw [ByteArray.toList_eq, ByteArray.toList_eq]
  exact ⟨fun h => by unfold bl; rw [h], fun h => by rw [bl_inj h]⟩
theorem bl_range (s : ByteArray) : ∀ x ∈ bl s, 0 ≤ x ∧ x < 256 := by
  intro x hx
  simp only [bl, List.mem_map] at hx
  obtain ⟨b, _, rfl⟩ := hx
  have := b.toNat_lt
  omega
theorem bt_bl (s : ByteArray) (i : Int) : bt s i = (bl s).getD i.toNat 0 := by
  unfold bt bl
  split
  · rename_i h
    have h' : i.toNat < s.data.toList.length := by rw [Array.length_toList]; exact h
    rw [List.getD_eq_getElem?_getD, List.getElem?_map, List.getElem?_eq_getElem h']
    rfl
  · rename_i h
    have h' : s.data.toList.length ≤ i.toNat := by rw [Array.length_toList]; exact Nat.le_of_not_lt h
    rw [List.getD_eq_getElem?_getD, List.getElem?_map, List.getElem?_eq_none h']
    rfl
theorem bl_append (s t : ByteArray) : bl (s ++ t) = bl s ++ bl t := by simp [bl]
theorem bl_extract (s : ByteArray) (a b : Nat) : bl (s.extract a b) = ((bl s).drop a).take (b - a) := by
  simp [bl, List.map_take, List.map_drop]
theorem u8_ofNat (n : Int) (h : 0 ≤ n ∧ n < 256) : ((UInt8.ofNat n.toNat).toNat : Int) = n := by
  rw [UInt8.toNat_ofNat']
  omega
theorem bl_str (xs : List Int) (h : ∀ x ∈ xs, 0 ≤ x ∧ x < 256) : bl (strOfNums xs) = xs := by
  unfold bl
  rw [strOfNums_data, List.map_map]
  conv => rhs; rw [← List.map_id xs]
  exact List.map_congr_left fun x hx => u8_ofNat x (h x hx)
theorem str_bl (s : ByteArray) : strOfNums (bl s) = s := bl_inj (bl_str _ (bl_range s))
theorem str_size (xs : List Int) : (strOfNums xs).size = xs.length := strOfNums_size xs
theorem bl_nil : bl (⟨#[]⟩ : ByteArray) = [] := rfl
theorem bt_lo (s : ByteArray) (i : Int) : 0 ≤ bt s i := (bt_range s i).1
theorem bt_hi (s : ByteArray) (i : Int) : bt s i < 256 := by have := (bt_range s i).2; omega
theorem wr (n : Int) (h : -9223372036854775808 ≤ n) (h' : n ≤ 9223372036854775807) : wrap64 n = n := by unfold wrap64; omega
theorem tdiv_pos (a b : Int) (h : 0 ≤ a) : Int.tdiv a b = a / b := Int.tdiv_eq_ediv_of_nonneg h
theorem tmod_pos (a b : Int) (h : 0 ≤ a) : Int.tmod a b = a % b := Int.tmod_eq_emod_of_nonneg h
theorem succ_of {k d : Nat} (h : d < k) : ∃ m, k = m + 1 := ⟨k - 1, by omega⟩
theorem drop_bt (s : ByteArray) (i : Nat) (h : i < s.size) : (bl s).drop i = bt s i :: (bl s).drop (i + 1) := by
  have h' : i < (bl s).length := by rw [bl_len]; exact h
  rw [List.drop_eq_getElem_cons h', bt_bl, Int.toNat_natCast, List.getD_eq_getElem?_getD, List.getElem?_eq_getElem h']
  rfl
theorem drop_end (s : ByteArray) (i : Nat) (h : s.size ≤ i) : (bl s).drop i = [] := List.drop_eq_nil_of_le (by rw [bl_len]; exact h)
theorem take_snoc_cons {α : Type} (p : List α) (b : α) (l : List α) : (p ++ b :: l).take (p.length + 1) = p ++ [b] := by
  rw [List.take_length_add_append]; simp
attribute [local irreducible] bt

-- snippet sumdef
/-! the check sum -/
theorem xor32_range (a b : Int) : 0 ≤ Go.bits .xor .u32 a b ∧ Go.bits .xor .u32 a b < 4294967296 := by
  unfold Go.bits
  simp only [IntKind.wrap_u32]
  omega
theorem and1 (x : Int) (h0 : 0 ≤ x) (h1 : x < 4294967296) : Go.bits .and .u32 x 1 = x % 2 :=
  bits_mask .u32 32 (by decide) (fun n g0 g1 => by rw [IntKind.wrap_u32]; exact Int.emod_eq_of_lt g0 g1) 1 (by decide) x h0 h1
def sh (x : Int) : Int := if x % 2 = 1 then Go.bits .xor .u32 (x / 2) 3558460437 else x / 2
theorem sh_range (x : Int) (h : 0 ≤ x ∧ x < 4294967296) : 0 ≤ sh x ∧ sh x < 4294967296 := by
  unfold sh
  split
  · exact xor32_range _ _
  · omega
def step8 (x b : Int) : Int := sh (sh (sh (sh (sh (sh (sh (sh (Go.bits .xor .u32 x b))))))))
theorem step8_range (x b : Int) : 0 ≤ step8 x b ∧ step8 x b < 4294967296 := by
  unfold step8
  exact sh_range _ (sh_range _ (sh_range _ (sh_range _ (sh_range _ (sh_range _ (sh_range _ (sh_range _ (xor32_range _ _))))))))
def sumL (x : Int) (l : List Int) : Int := l.foldl step8 x
theorem sumL_range : ∀ (l : List Int) (x : Int), 0 ≤ x ∧ x < 4294967296 → 0 ≤ sumL x l ∧ sumL x l < 4294967296
  | [], x, h => h
  | b :: l, x, _ => sumL_range l (step8 x b) (step8_range x b)
theorem sumL_append (x : Int) (a b : List Int) : sumL x (a ++ b) = sumL (sumL x a) b := List.foldl_append
def fourL (n : Int) : List Int := [(n / 16777216) % 256, (n / 65536) % 256, (n / 256) % 256, n % 256]
theorem fourL_range (n : Int) : ∀ x ∈ fourL n, 0 ≤ x ∧ x < 256 := by
  intro x hx
  simp only [fourL, List.mem_cons, List.not_mem_nil, or_false] at hx
  rcases hx with rfl | rfl | rfl | rfl <;> omega
theorem fourL_inj (a b : Int) (ha : 0 ≤ a ∧ a < 4294967296) (hb : 0 ≤ b ∧ b < 4294967296) (h : fourL a = fourL b) : a = b := by
  simp only [fourL, List.cons.injEq, and_true] at h
  omega

-- snippet sumimpl
theorem impl_sum_l1 (K : Nat) (x : Int) (s : ByteArray) (i j : Int) (h : 0 ≤ x ∧ x < 4294967296) (h0 : 0 ≤ j) (hj : j < 8) : impl_SumMore.l1 (K + 1) x s i j = impl_SumMore.l1 K (sh x) s i (j + 1) := by
  simp only [impl_SumMore.l1]
  rw [if_pos hj, and1 x h.1 h.2, wr (j + 1) (by omega) (by omega)]
  unfold sh
  split <;> rfl
theorem impl_sum_l1_end (K : Nat) (x : Int) (s : ByteArray) (i : Int) : impl_SumMore.l1 (K + 1) x s i 8 = impl_SumMore.l0 K x s (wrap64 (i + 1)) := by
  simp only [impl_SumMore.l1]
  rw [if_neg (by omega)]
theorem impl_sum_byte (K i : Nat) (x : Int) (s : ByteArray) (hi : i < s.size) (hs : s.size < 140737488355328) : impl_SumMore.l0 (K + 10) x s i = impl_SumMore.l0 K (step8 x (bt s i)) s ((i + 1 : Nat) : Int) := by
  have e0 : impl_SumMore.l0 (K + 10) x s i = impl_SumMore.l1 (K + 9) (Go.bits .xor .u32 x (bt s i)) s i 0 := by
    have lo := bt_lo s i
    have hi2 := bt_hi s i
    have e : bt s i % 4294967296 = bt s i := by omega
    simp only [impl_SumMore.l0]
    rw [if_pos (by omega), if_pos (by omega), e]
  have r := xor32_range x (bt s i)
  rw [e0]
  have r1 := sh_range _ r
  have r2 := sh_range _ r1
  have r3 := sh_range _ r2
  have r4 := sh_range _ r3
  have r5 := sh_range _ r4
  have r6 := sh_range _ r5
  have r7 := sh_range _ r6
  rw [impl_sum_l1 (K + 8) _ s i 0 r (by decide) (by decide), impl_sum_l1 (K + 7) _ s i _ r1 (by decide) (by decide), impl_sum_l1 (K + 6) _ s i _ r2 (by decide) (by decide), impl_sum_l1 (K + 5) _ s i _ r3 (by decide) (by decide), impl_sum_l1 (K + 4) _ s i _ r4 (by decide) (by decide), impl_sum_l1 (K + 3) _ s i _ r5 (by decide) (by decide), impl_sum_l1 (K + 2) _ s i _ r6 (by decide) (by decide), impl_sum_l1 (K + 1) _ s i _ r7 (by decide) (by decide)]
  have e8 : (0 + 1 + 1 + 1 + 1 + 1 + 1 + 1 + 1 : Int) = 8 := by decide
  rw [e8, impl_sum_l1_end, wr _ (by omega) (by omega)]
  rfl
theorem impl_sum_l0 (s : ByteArray) (hs : s.size < 140737488355328) : ∀ (d K i : Nat) (x : Int), i + d = s.size → 10 * d + 1 ≤ K → impl_SumMore.l0 K x s i = some (sumL x ((bl s).drop i)) := by
  intro d
  induction d with
  | zero =>
    intro K i x h hK
    obtain ⟨K, rfl⟩ := succ_of hK
    simp only [impl_SumMore.l0]
    rw [if_neg (by omega), drop_end s i (by omega)]
    rfl
  | succ d ih =>
    intro K i x h hK
    obtain ⟨K, rfl⟩ : ∃ m, K = m + 10 := ⟨K - 10, by omega⟩
    rw [impl_sum_byte K i x s (by omega) hs, ih K (i + 1) _ (by omega) (by omega), drop_bt s i (by omega)]
    rfl
theorem impl_SumMore_f (K : Nat) (x : Int) (s : ByteArray) (hs : s.size < 140737488355328) (hK : 10 * s.size + 1 ≤ K) : impl_SumMore.f K x s = some (sumL x (bl s)) := by
  have := impl_sum_l0 s hs s.size K 0 x (by omega) hK
  unfold impl_SumMore.f
  simpa using this

-- snippet sumof_impl
theorem impl_SumOf_f (K : Nat) (s : ByteArray) (hs : s.size < 140737488355328) (hK : 10 * s.size + 1 ≤ K) : impl_SumOf.f K s = some (sumL 4294967295 (bl s)) := by
  unfold impl_SumOf.f
  rw [impl_SumMore_f K _ s hs hK]
  rfl

-- snippet sumspec
theorem spec_sum_l1 (K : Nat) (x : Int) (s : ByteArray) (i j : Int) (h : 0 ≤ x ∧ x < 4294967296) (h0 : 0 ≤ j) (hj : j < 8) : spec_SumMore.l1 (K + 1) x s i j = spec_SumMore.l1 K (sh x) s i (j + 1) := by
  simp only [spec_SumMore.l1]
  rw [if_pos hj, tmod_pos x 2 h.1, tdiv_pos x 2 h.1, show x / 2 % 4294967296 = x / 2 by omega, wr (j + 1) (by omega) (by omega)]
  unfold sh
  split <;> rfl
theorem spec_sum_l1_end (K : Nat) (x : Int) (s : ByteArray) (i : Int) : spec_SumMore.l1 (K + 1) x s i 8 = spec_SumMore.l0 K x s (wrap64 (i + 1)) := by
  simp only [spec_SumMore.l1]
  rw [if_neg (by omega)]
theorem spec_sum_byte (K i : Nat) (x : Int) (s : ByteArray) (hi : i < s.size) (hs : s.size < 140737488355328) : spec_SumMore.l0 (K + 10) x s i = spec_SumMore.l0 K (step8 x (bt s i)) s ((i + 1 : Nat) : Int) := by
  have e0 : spec_SumMore.l0 (K + 10) x s i = spec_SumMore.l1 (K + 9) (Go.bits .xor .u32 x (bt s i)) s i 0 := by
    have lo := bt_lo s i
    have hi2 := bt_hi s i
    have e : bt s i % 4294967296 = bt s i := by omega
    simp only [spec_SumMore.l0]
    rw [if_pos (by omega), if_pos (by omega), e]
  have r := xor32_range x (bt s i)
  rw [e0]
  have r1 := sh_range _ r
  have r2 := sh_range _ r1
  have r3 := sh_range _ r2
  have r4 := sh_range _ r3
  have r5 := sh_range _ r4
  have r6 := sh_range _ r5
  have r7 := sh_range _ r6
  rw [spec_sum_l1 (K + 8) _ s i 0 r (by decide) (by decide), spec_sum_l1 (K + 7) _ s i _ r1 (by decide) (by decide), spec_sum_l1 (K + 6) _ s i _ r2 (by decide) (by decide), spec_sum_l1 (K + 5) _ s i _ r3 (by decide) (by decide), spec_sum_l1 (K + 4) _ s i _ r4 (by decide) (by decide), spec_sum_l1 (K + 3) _ s i _ r5 (by decide) (by decide), spec_sum_l1 (K + 2) _ s i _ r6 (by decide) (by decide), spec_sum_l1 (K + 1) _ s i _ r7 (by decide) (by decide)]
  have e8 : (0 + 1 + 1 + 1 + 1 + 1 + 1 + 1 + 1 : Int) = 8 := by decide
  rw [e8, spec_sum_l1_end, wr _ (by omega) (by omega)]
  rfl
theorem spec_sum_l0 (s : ByteArray) (hs : s.size < 140737488355328) : ∀ (d K i : Nat) (x : Int), i + d = s.size → 10 * d + 1 ≤ K → spec_SumMore.l0 K x s i = some (sumL x ((bl s).drop i)) := by
  intro d
  induction d with
  | zero =>
    intro K i x h hK
    obtain ⟨K, rfl⟩ := succ_of hK
    simp only [spec_SumMore.l0]
    rw [if_neg (by omega), drop_end s i (by omega)]
    rfl
  | succ d ih =>
    intro K i x h hK
    obtain ⟨K, rfl⟩ : ∃ m, K = m + 10 := ⟨K - 10, by omega⟩
    rw [spec_sum_byte K i x s (by omega) hs, ih K (i + 1) _ (by omega) (by omega), drop_bt s i (by omega)]
    rfl
theorem spec_SumMore_f (K : Nat) (x : Int) (s : ByteArray) (hs : s.size < 140737488355328) (hK : 10 * s.size + 1 ≤ K) : spec_SumMore.f K x s = some (sumL x (bl s)) := by
  have := spec_sum_l0 s hs s.size K 0 x (by omega) hK
  unfold spec_SumMore.f
  simpa using this

-- snippet sumof_spec
theorem spec_SumOf_f (K : Nat) (s : ByteArray) (hs : s.size < 140737488355328) (hK : 10 * s.size + 1 ≤ K) : spec_SumOf.f K s = some (sumL 4294967295 (bl s)) := by
  unfold spec_SumOf.f
  rw [spec_SumMore_f K _ s hs hK]
  rfl

-- snippet var
/-! VarText -/
def varL (n : Nat) : List Int := if 127 < n then ((n % 128 + 128 : Nat) : Int) :: varL (n / 128) else [(n : Int)]
termination_by n
decreasing_by omega
theorem spec_var : ∀ (d k n : Nat) (xs : List Int), n < d → d ≤ k → n < 4611686018427387904 → xs.length + d < 140737488355328 → spec_l01Var.l0 k n xs = some (strOfNums (xs ++ varL n)) := by
  intro d
  induction d with
  | zero => intro k n xs h; omega
  | succ d ih =>
    intro k n xs h hk hn hl
    obtain ⟨k, rfl⟩ := succ_of hk
    simp only [spec_l01Var.l0]
    by_cases c : 127 < n
    · rw [if_pos (by omega), if_pos (by omega)]
      have e1 : wrap64 (Int.tdiv (n : Int) 128) = ((n / 128 : Nat) : Int) := by rw [tdiv_pos _ _ (by omega), wr _ (by omega) (by omega)]; omega
      have e2 : (wrap64 (Int.tmod (n : Int) 128 + 128)) % 256 = ((n % 128 + 128 : Nat) : Int) := by rw [tmod_pos _ _ (by omega), wr _ (by omega) (by omega)]; omega
      rw [e1, e2, ih k (n / 128) _ (by omega) (by omega) (by omega) (by simp; omega)]
      conv => rhs; rw [varL, if_pos c]
      simp
    · rw [if_neg (by omega), if_pos (by omega), varL, if_neg c]
      have : (n : Int) % 256 = n := by omega
      rw [this]
theorem spec_var_f (k : Nat) (n : Int) (h0 : 0 ≤ n) (h1 : n ≤ 1000000000) (hk : 1000000001 ≤ k) : spec_l01Var.f k n = some (strOfNums (varL n.toNat)) := by
  have := spec_var 1000000001 k n.toNat [] (by omega) hk (by omega) (by simp)
  rw [Int.toNat_of_nonneg h0] at this
  unfold spec_l01Var.f
  rw [this, List.nil_append]
theorem varL_range : ∀ (d n : Nat), n < d → ∀ x ∈ varL n, 0 ≤ x ∧ x < 256 := by
  intro d
  induction d with
  | zero => intro n h; omega
  | succ d ih =>
    intro n h x hx
    rw [varL] at hx
    split at hx
    · rcases List.mem_cons.mp hx with rfl | hx
      · omega
      · exact ih _ (by omega) x hx
    · rw [List.mem_singleton] at hx
      omega
theorem bl_var (n : Nat) : bl (strOfNums (varL n)) = varL n := bl_str _ (varL_range (n + 1) n (by omega))
theorem varL_len : ∀ (d n : Nat), n < d → 1 ≤ (varL n).length ∧ (varL n).length ≤ n + 1 := by
  intro d
  induction d with
  | zero => intro n h; omega
  | succ d ih =>
    intro n h
    rw [varL]
    split
    · have := ih (n / 128) (by omega)
      simp only [List.length_cons]
      omega
    · simp

-- snippet varimpl
theorem var_eq : ∀ (k : Nat) (x : Int) (xs : List Int), impl_varText.l0 k x xs = spec_l01Var.l0 k x xs
  | 0, _, _ => rfl
  | k + 1, x, xs => by simp only [impl_varText.l0, spec_l01Var.l0, var_eq k, Int.add_comm (Int.tmod x 128) 128]
theorem impl_var_f (k : Nat) (n : Int) (h0 : 0 ≤ n) (h1 : n ≤ 1000000000) (hk : 1000000001 ≤ k) : impl_varText.f k n = some (strOfNums (varL n.toNat)) := by
  unfold impl_varText.f
  rw [var_eq]
  exact spec_var_f k n h0 h1 hk

-- snippet frame
theorem size_extract (s : ByteArray) (a b : Nat) : (s.extract a b).size ≤ s.size := by
  rw [ByteArray.size_extract]; omega
/-! Frame -/
def frameB (s : ByteArray) : ByteArray := strOfNums (varL s.size) ++ strOfNums (fourL (sumL 4294967295 (bl s))) ++ s
theorem frame_bl (s : ByteArray) : bl (frameB s) = varL s.size ++ fourL (sumL 4294967295 (bl s)) ++ bl s := by
  unfold frameB
  rw [bl_append, bl_append, bl_var, bl_str _ (fourL_range _)]
theorem spec_Frame_f (K : Nat) (s : ByteArray) (hs : s.size ≤ 140737488351232) (hK : 1000000020 ≤ K) : spec_Frame.f K s = some (if 1 ≤ s.size ∧ s.size ≤ 9000 then (frameB s, true) else ((⟨#[]⟩ : ByteArray), false)) := by
  unfold spec_Frame.f spec_l01In.f
  by_cases h1 : 1 ≤ s.size
  · rw [if_pos (show (s.size : Int) ≥ 1 by omega), Option.bind_some]
    by_cases h2 : s.size ≤ 9000
    · have l := varL_len _ (s.size) (Nat.lt_succ_self _)
      rw [if_pos (show decide ((s.size : Int) ≤ 9000) = true by simp; omega), if_pos ⟨h1, h2⟩, spec_var_f _ _ (by omega) (by omega) (by omega), Option.bind_some, spec_SumOf_f _ s (by omega) (by omega), Option.bind_some]
      simp only [spec_l02Four.f, Option.bind_some, Int.toNat_natCast]
      rw [if_pos (by simp only [str_size, List.length_cons, List.length_nil]; omega), if_pos (by simp only [ByteArray.size_append, str_size, List.length_cons, List.length_nil]; omega)]
      rfl
    · rw [if_neg (show ¬ decide ((s.size : Int) ≤ 9000) = true by simp; omega), if_neg (fun h => h2 h.2)]
  · rw [if_neg (show ¬ (s.size : Int) ≥ 1 by omega), Option.bind_some, if_neg (by simp), if_neg (fun h => h1 h.1)]

-- snippet frame_impl
theorem impl_Frame_f (K : Nat) (s : ByteArray) (hs : s.size ≤ 140737488351232) (hK : 1000000020 ≤ K) : impl_Frame.f K s = some (if 1 ≤ s.size ∧ s.size ≤ 9000 then (frameB s, true) else ((⟨#[]⟩ : ByteArray), false)) := by
  unfold impl_Frame.f impl_in.f
  by_cases h1 : 1 ≤ s.size
  · rw [if_pos (show (s.size : Int) ≥ 1 by omega), Option.bind_some]
    by_cases h2 : s.size ≤ 9000
    · have l := varL_len _ (s.size) (Nat.lt_succ_self _)
      rw [if_pos (show decide ((s.size : Int) ≤ 9000) = true by simp; omega), if_pos ⟨h1, h2⟩, impl_var_f _ _ (by omega) (by omega) (by omega), Option.bind_some, impl_SumOf_f _ s (by omega) (by omega), Option.bind_some]
      simp only [impl_fourBytes.f, Option.bind_some, Int.toNat_natCast]
      rw [if_pos (by simp only [str_size, List.length_cons, List.length_nil]; omega), if_pos (by simp only [ByteArray.size_append, str_size, List.length_cons, List.length_nil]; omega)]
      rfl
    · rw [if_neg (show ¬ decide ((s.size : Int) ≤ 9000) = true by simp; omega), if_neg (fun h => h2 h.2)]
  · rw [if_neg (show ¬ (s.size : Int) ≥ 1 by omega), Option.bind_some, if_neg (by simp), if_neg (fun h => h1 h.1)]

theorem FnExactFrame : laws_FnExactFrame.Pure := by
  intro s hs
  refine ⟨1000000020, ?_⟩
  unfold laws_FnExactFrame.f
  by_cases h : (s.size : Int) > 1048576
  · rw [if_pos h]
  · rw [if_neg h, spec_Frame_f _ s hs (Nat.le_refl _), impl_Frame_f _ s hs (Nat.le_refl _)]
    simp

end Go.Proofs.Ytkfggpcljndnoaa.Pure
