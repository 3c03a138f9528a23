/- Of every draw the program's Frame and Unframe give back the drawn records, and of a file that is cut just the whole ones. No condition but the form's own bound on a slice's size. -/
import Derived.Test.YtkfggpcljndnoaaPFnFramesx4
set_option linter.unusedVariables false
set_option linter.unusedSimpArgs false
namespace Go.Proofs.Ytkfggpcljndnoaa.Pure
open Go.RowKit Go.Proofs.Ytkfggpcljndnoaa.PFnFrames Go.Proofs.YtkfggpcljndnoaaW.PrintWords Go.Proofs.YtkfggpcljndnoaaW.PrintLast Go.Proofs.YtkfggpcljndnoaaW.PrintMore

-- snippet plain
/-! bytes as numbers -/
def bl (s : ByteArray) : List Int := s.data.toList.map fun b => (b.toNat : Int)
theorem bl_len (s : ByteArray) : (bl s).length = s.size := by unfold bl; rw [List.length_map, Array.length_toList]; rfl
theorem map_u8_inj : ∀ {a b : List UInt8}, a.map (fun b => (b.toNat : Int)) = b.map (fun b => (b.toNat : Int)) → a = b
  | [], [], _ => rfl
  | [], _ :: _, h => by simp at h
  | _ :: _, [], h => by simp at h
  | x :: a, y :: b, h => by
    simp only [List.map_cons, List.cons.injEq] at h
    have e : x = y := UInt8.toNat_inj.mp (by omega)
    rw [e, map_u8_inj h.2]
theorem bl_inj {s t : ByteArray} (h : bl s = bl t) : s = t := by
  have := map_u8_inj h
  cases s; cases t
  simp only [ByteArray.mk.injEq] at *
  exact Array.toList_inj.mp this
theorem bl_eq {s t : ByteArray} : s = t ↔ bl s = bl t := ⟨fun h => by rw [h], bl_inj⟩
theorem toList_bl {s t : ByteArray} : s.toList = t.toList ↔ bl s = bl t := by
  rw [ByteArray.toList_eq, ByteArray.toList_eq]
  exact ⟨fun h => by unfold bl; rw [h], fun h => by rw [bl_inj h]⟩
theorem bl_range (s : ByteArray) : ∀ x ∈ bl s, 0 ≤ x ∧ x < 256 := by
  intro x hx
  simp only [bl, List.mem_map] at hx
  obtain ⟨b, _, rfl⟩ := hx
  have := b.toNat_lt
  omega
theorem bt_bl (s : ByteArray) (i : Int) : bt s i = (bl s).getD i.toNat 0 := by
  unfold bt bl
  split
  · rename_i h
    have h' : i.toNat < s.data.toList.length := by rw [Array.length_toList]; exact h
    rw [List.getD_eq_getElem?_getD, List.getElem?_map, List.getElem?_eq_getElem h']
    rfl
  · rename_i h
    have h' : s.data.toList.length ≤ i.toNat := by rw [Array.length_toList]; exact Nat.le_of_not_lt h
    rw [List.getD_eq_getElem?_getD, List.getElem?_map, List.getElem?_eq_none h']
    rfl
theorem bl_append (s t : ByteArray) : bl (s ++ t) = bl s ++ bl t := by simp [bl]
theorem bl_extract (s : ByteArray) (a b : Nat) : bl (s.extract a b) = ((bl s).drop a).take (b - a) := by
  simp [bl, List.map_take, List.map_drop]
theorem u8_ofNat (n : Int) (h : 0 ≤ n ∧ n < 256) : ((UInt8.ofNat n.toNat).toNat : Int) = n := by
  rw [UInt8.toNat_ofNat']
  omega
theorem bl_str (xs : List Int) (h : ∀ x ∈ xs, 0 ≤ x ∧ x < 256) : bl (strOfNums xs) = xs := by
  unfold bl
  rw [strOfNums_data, List.map_map]
  conv => rhs; rw [← List.map_id xs]
  exact List.map_congr_left fun x hx => u8_ofNat x (h x hx)
theorem str_bl (s : ByteArray) : strOfNums (bl s) = s := bl_inj (bl_str _ (bl_range s))
theorem str_size (xs : List Int) : (strOfNums xs).size = xs.length := strOfNums_size xs
theorem bl_nil : bl (⟨#[]⟩ : ByteArray) = [] := rfl
theorem bt_lo (s : ByteArray) (i : Int) : 0 ≤ bt s i := (bt_range s i).1
theorem bt_hi (s : ByteArray) (i : Int) : bt s i < 256 := by have := (bt_range s i).2; omega
theorem wr (n : Int) (h : -9223372036854775808 ≤ n) (h' : n ≤ 9223372036854775807) : wrap64 n = n := by unfold wrap64; omega
theorem tdiv_pos (a b : Int) (h : 0 ≤ a) : Int.tdiv a b = a / b := Int.tdiv_eq_ediv_of_nonneg h
theorem tmod_pos (a b : Int) (h : 0 ≤ a) : Int.tmod a b = a % b := Int.tmod_eq_emod_of_nonneg h
theorem succ_of {k d : Nat} (h : d < k) : ∃ m, k = m + 1 := ⟨k - 1, by omega⟩
theorem drop_bt (s : ByteArray) (i : Nat) (h : i < s.size) : (bl s).drop i = bt s i :: (bl s).drop (i + 1) := by
  have h' : i < (bl s).length := by rw [bl_len]; exact h
  rw [List.drop_eq_getElem_cons h', bt_bl, Int.toNat_natCast, List.getD_eq_getElem?_getD, List.getElem?_eq_getElem h']
  rfl
theorem drop_end (s : ByteArray) (i : Nat) (h : s.size ≤ i) : (bl s).drop i = [] := List.drop_eq_nil_of_le (by rw [bl_len]; exact h)
theorem take_snoc_cons {α : Type} (p : List α) (b : α) (l : List α) : (p ++ b :: l).take (p.length + 1) = p ++ [b] := by
  rw [List.take_length_add_append]; simp
attribute [local irreducible] bt

-- snippet sumdef
/-! the check sum -/
theorem xor32_range (a b : Int) : 0 ≤ Go.bits .xor .u32 a b ∧ Go.bits .xor .u32 a b < 4294967296 := by
  unfold Go.bits
  simp only [IntKind.wrap_u32]
  omega
theorem and1 (x : Int) (h0 : 0 ≤ x) (h1 : x < 4294967296) : Go.bits .and .u32 x 1 = x % 2 :=
  bits_mask .u32 32 (by decide) (fun n g0 g1 => by rw [IntKind.wrap_u32]; exact Int.emod_eq_of_lt g0 g1) 1 (by decide) x h0 h1
def sh (x : Int) : Int := if x % 2 = 1 then Go.bits .xor .u32 (x / 2) 3558460437 else x / 2
theorem sh_range (x : Int) (h : 0 ≤ x ∧ x < 4294967296) : 0 ≤ sh x ∧ sh x < 4294967296 := by
  unfold sh
  split
  · exact xor32_range _ _
  · omega
def step8 (x b : Int) : Int := sh (sh (sh (sh (sh (sh (sh (sh (Go.bits .xor .u32 x b))))))))
theorem step8_range (x b : Int) : 0 ≤ step8 x b ∧ step8 x b < 4294967296 := by
  unfold step8
  exact sh_range _ (sh_range _ (sh_range _ (sh_range _ (sh_range _ (sh_range _ (sh_range _ (sh_range _ (xor32_range _ _))))))))
def sumL (x : Int) (l : List Int) : Int := l.foldl step8 x
theorem sumL_range : ∀ (l : List Int) (x : Int), 0 ≤ x ∧ x < 4294967296 → 0 ≤ sumL x l ∧ sumL x l < 4294967296
  | [], x, h => h
  | b :: l, x, _ => sumL_range l (step8 x b) (step8_range x b)
theorem sumL_append (x : Int) (a b : List Int) : sumL x (a ++ b) = sumL (sumL x a) b := List.foldl_append
def fourL (n : Int) : List Int := [(n / 16777216) % 256, (n / 65536) % 256, (n / 256) % 256, n % 256]
theorem fourL_range (n : Int) : ∀ x ∈ fourL n, 0 ≤ x ∧ x < 256 := by
  intro x hx
  simp only [fourL, List.mem_cons, List.not_mem_nil, or_false] at hx
  rcases hx with rfl | rfl | rfl | rfl <;> omega
theorem fourL_inj (a b : Int) (ha : 0 ≤ a ∧ a < 4294967296) (hb : 0 ≤ b ∧ b < 4294967296) (h : fourL a = fourL b) : a = b := by
  simp only [fourL, List.cons.injEq, and_true] at h
  omega

-- snippet varp
/-! VarText -/
def varL (n : Nat) : List Int := if 127 < n then ((n % 128 + 128 : Nat) : Int) :: varL (n / 128) else [(n : Int)]
termination_by n
decreasing_by omega
theorem varL_range : ∀ (d n : Nat), n < d → ∀ x ∈ varL n, 0 ≤ x ∧ x < 256 := by
  intro d
  induction d with
  | zero => intro n h; omega
  | succ d ih =>
    intro n h x hx
    rw [varL] at hx
    split at hx
    · rcases List.mem_cons.mp hx with rfl | hx
      · omega
      · exact ih _ (by omega) x hx
    · rw [List.mem_singleton] at hx
      omega
theorem bl_var (n : Nat) : bl (strOfNums (varL n)) = varL n := bl_str _ (varL_range (n + 1) n (by omega))
theorem varL_len : ∀ (d n : Nat), n < d → 1 ≤ (varL n).length ∧ (varL n).length ≤ n + 1 := by
  intro d
  induction d with
  | zero => intro n h; omega
  | succ d ih =>
    intro n h
    rw [varL]
    split
    · have := ih (n / 128) (by omega)
      simp only [List.length_cons]
      omega
    · simp

-- snippet framep
theorem size_extract (s : ByteArray) (a b : Nat) : (s.extract a b).size ≤ s.size := by
  rw [ByteArray.size_extract]; omega
/-! Frame -/
def frameB (s : ByteArray) : ByteArray := strOfNums (varL s.size) ++ strOfNums (fourL (sumL 4294967295 (bl s))) ++ s
theorem frame_bl (s : ByteArray) : bl (frameB s) = varL s.size ++ fourL (sumL 4294967295 (bl s)) ++ bl s := by
  unfold frameB
  rw [bl_append, bl_append, bl_var, bl_str _ (fourL_range _)]

-- snippet readvar
/-! ReadVar -/
def pw : Nat → Int
  | 0 => 1
  | k + 1 => pw k * 128
def rv : Nat → Nat → Int → Int → List Int → Option (Int × Nat)
  | 0, _, _, _, _ => none
  | _ + 1, _, _, _, [] => none
  | r + 1, k, n, m, b :: l => if b < 128 then (if (b = 0 ∧ 0 < k) ∨ n + b % 128 * m > 1000000000 then none else some (n + b % 128 * m, k + 1)) else rv r (k + 1) (n + b % 128 * m) (m * 128) l
def rvOut (a : Nat) : Option (Int × Nat) → Int × Int × Bool
  | none => (0, 0, false)
  | some x => (x.1, ((a + x.2 : Nat) : Int), true)
theorem pw_succ (k : Nat) : pw (k + 1) = pw k * 128 := by simp only [pw]
theorem pw_vals : pw 0 = 1 ∧ pw 1 = 128 ∧ pw 2 = 16384 ∧ pw 3 = 2097152 ∧ pw 4 = 268435456 ∧ pw 5 = 34359738368 := by decide
attribute [local irreducible] pw
theorem five {k : Nat} (h : k < 5) : k = 0 ∨ k = 1 ∨ k = 2 ∨ k = 3 ∨ k = 4 := by omega
theorem step_range (k : Nat) (hk : k < 5) (n b : Int) (h0 : 0 ≤ n) (h1 : n < pw k) (hb0 : 0 ≤ b) (hb : b < 256) : 0 ≤ b % 128 * pw k ∧ b % 128 * pw k < 34359738368 ∧ 0 ≤ n + b % 128 * pw k ∧ n + b % 128 * pw k < pw (k + 1) ∧ pw (k + 1) ≤ 34359738368 ∧ 0 < pw k := by
  obtain ⟨p0, p1, p2, p3, p4, p5⟩ := pw_vals
  rcases five hk with rfl | rfl | rfl | rfl | rfl <;> simp only [p0, p1, p2, p3, p4, p5] at * <;> omega
theorem shl7 (k : Nat) (hk : k < 5) (x : Int) (h0 : 0 ≤ x) (h1 : x < 128) : shl .i64 x (wrap64 (7 * (k : Int))) = x * pw k := by
  obtain ⟨p0, p1, p2, p3, p4, p5⟩ := pw_vals
  have e : wrap64 (7 * (k : Int)) = ((7 * k : Nat) : Int) := by rw [wr _ (by omega) (by omega)]; omega
  rw [e]
  unfold shl
  rw [IntKind.wrap_i64, Int.toNat_natCast]
  rcases five hk with rfl | rfl | rfl | rfl | rfl
  · rw [p0, show min (7 * 0) IntKind.i64.bits = 0 from rfl]; omega
  · rw [p1, show min (7 * 1) IntKind.i64.bits = 7 from rfl]; omega
  · rw [p2, show min (7 * 2) IntKind.i64.bits = 14 from rfl]; omega
  · rw [p3, show min (7 * 3) IntKind.i64.bits = 21 from rfl]; omega
  · rw [p4, show min (7 * 4) IntKind.i64.bits = 28 from rfl]; omega
theorem impl_rv (s : ByteArray) (a : Nat) (hs : s.size < 140737488355328) : ∀ (r k K : Nat) (n : Int), r + k = 5 → 2 * r + 2 ≤ K → a + k ≤ s.size ∨ r = 0 → 0 ≤ n → n < pw k → a ≤ s.size →
    impl_ReadVar.l0 K s a n k = some (rvOut a (rv r k n (pw k) ((bl s).drop (a + k)))) := by
  intro r
  induction r with
  | zero =>
    intro k K n h hK _ h0 h1 ha
    obtain ⟨K, rfl⟩ : ∃ m, K = m + 2 := ⟨K - 2, by omega⟩
    simp only [impl_ReadVar.l0, impl_ReadVar.j1]
    rw [if_neg (by omega), if_neg (by simp)]
    simp [rv, rvOut]
  | succ r ih =>
    intro k K n h hK hak h0 h1 ha
    have hak : a + k ≤ s.size := by omega
    obtain ⟨K, rfl⟩ : ∃ m, K = m + 2 := ⟨K - 2, by omega⟩
    have q1 : r + (k + 1) = 5 := by omega
    have q2 : 2 * r + 2 ≤ K := by omega
    have e1 : wrap64 ((a : Int) + (k : Int)) = ((a + k : Nat) : Int) := by rw [wr _ (by omega) (by omega)]; omega
    have e2 : wrap64 (7 * (k : Int)) = ((7 * k : Nat) : Int) := by rw [wr _ (by omega) (by omega)]; omega
    simp only [impl_ReadVar.l0, impl_ReadVar.j1]
    rw [if_pos (by omega), e1]
    by_cases c : a + k < s.size
    · have lo := bt_lo s ((a + k : Nat) : Int)
      have hi := bt_hi s ((a + k : Nat) : Int)
      rw [drop_bt s (a + k) c]
      have e4 : shl .i64 (Int.tmod (bt s ((a + k : Nat) : Int)) 128) (wrap64 (7 * (k : Int))) = bt s ((a + k : Nat) : Int) % 128 * pw k := by
        rw [tmod_pos _ _ lo]
        exact shl7 k (by omega) _ (by omega) (by omega)
      obtain ⟨g0, g1, g2, g3, g4, g5⟩ := step_range k (by omega) n _ h0 h1 lo hi
      rw [if_pos (by simp; omega), if_pos (by omega), if_pos (by omega), if_pos (by rw [e2]; omega), wr (bt s ((a + k : Nat) : Int)) (by omega) (by omega), e4, wr _ (by omega) (by omega)]
      simp only [rv]
      generalize hM : bt s ((a + k : Nat) : Int) % 128 * pw k = M at *
      generalize bt s ((a + k : Nat) : Int) = b at *
      generalize n + M = V at *
      by_cases d : b < 128
      · clear hM e4 g0 g1 g2 g3 g4 g5 lo hi h0 h1 ih e2
        rw [if_pos d, if_pos d]
        have e3 : wrap64 (((a + k : Nat) : Int) + 1) = ((a + (k + 1) : Nat) : Int) := by rw [wr _ (by omega) (by omega)]; omega
        rw [e3]
        by_cases z : b = 0
        · rw [if_pos z]
          by_cases z2 : 0 < k
          · rw [if_pos (show (k : Int) > 0 by omega), if_pos (Or.inl ⟨z, z2⟩)]; simp only [rvOut]
          · rw [if_neg (show ¬ (k : Int) > 0 by omega)]
            by_cases g : V > 1000000000
            · rw [if_pos g, if_pos (Or.inr g)]; simp only [rvOut]
            · rw [if_neg g, if_neg (fun q => q.elim (fun q => z2 q.2) g)]; simp only [rvOut]
        · rw [if_neg z]
          by_cases g : V > 1000000000
          · rw [if_pos g, if_pos (Or.inr g)]; simp only [rvOut]
          · rw [if_neg g, if_neg (fun q => q.elim (fun q => z q.1) g)]; simp only [rvOut]
      · clear hM e4 g0 g1 g4 g5 e2
        rw [if_neg d, if_neg d]
        have e3 : wrap64 ((k : Int) + 1) = ((k + 1 : Nat) : Int) := by rw [wr _ (by omega) (by omega)]; omega
        rw [e3, ih (k + 1) K _ q1 q2 (Or.inl c) g2 g3 ha, ← Nat.add_assoc]
        rw [pw_succ]
    · rw [if_neg (by simp; omega), drop_end s (a + k) (by omega)]
      simp [rv, rvOut]
theorem impl_ReadVar_f (K : Nat) (s : ByteArray) (a : Int) (hs : s.size < 140737488355328) (h0 : 0 ≤ a) (h1 : a ≤ s.size) (hK : 12 ≤ K) : impl_ReadVar.f K s a = some (rvOut a.toNat (rv 5 0 0 1 ((bl s).drop a.toNat))) := by
  obtain ⟨a, rfl⟩ := Int.eq_ofNat_of_zero_le h0
  have := impl_rv s a hs 5 0 K 0 (by omega) (by omega) (by omega) (by omega) (by rw [pw_vals.1]; decide) (by omega)
  unfold impl_ReadVar.f impl_in.f
  rw [if_pos (by omega)]
  simp only [Option.bind_some]
  rw [if_pos (by simp; omega)]
  simpa [pw_vals.1] using this
theorem impl_ReadVar_bad (K : Nat) (s : ByteArray) (a : Int) (h : a < 0 ∨ (s.size : Int) < a) : impl_ReadVar.f K s a = some (0, 0, false) := by
  unfold impl_ReadVar.f impl_in.f
  split
  · simp only [Option.bind_some]; rw [if_neg (by simp; omega)]
  · simp only [Option.bind_some]; rw [if_neg (by simp)]
/-! what is read is what was written -/
def val : List Int → Int
  | [] => 0
  | b :: l => b % 128 + 128 * val l
theorem val_nonneg : ∀ l : List Int, 0 ≤ val l
  | [] => by simp [val]
  | b :: l => by have := val_nonneg l; simp only [val]; omega
theorem val_pos : ∀ (p : List Int) (b : Int), 0 < b → b < 128 → 0 < val (p ++ [b])
  | [], b, h, h1 => by simp only [List.nil_append, val]; omega
  | x :: p, b, h, h1 => by have := val_pos p b h h1; simp only [List.cons_append, val]; omega
theorem val_snoc : ∀ (p : List Int) (b : Int), val (p ++ [b]) = val p + b % 128 * pw p.length
  | [], b => by simp [val, pw_vals.1]
  | x :: p, b => by
    have := val_snoc p b
    simp only [List.cons_append, val, this, List.length_cons, pw_succ]
    rw [Int.mul_add, Int.mul_comm 128 (b % 128 * pw p.length), Int.mul_assoc]
    omega
theorem varL_val : ∀ (p : List Int) (b : Int), (∀ x ∈ p, 128 ≤ x ∧ x < 256) → 0 ≤ b → b < 128 → (p = [] ∨ b ≠ 0) → varL (val (p ++ [b])).toNat = p ++ [b]
  | [], b, _, h0, h1, _ => by
    simp only [List.nil_append, val]
    rw [varL, if_neg (by omega)]
    congr 1; omega
  | x :: p, b, hp, h0, h1, hb => by
    have hb : b ≠ 0 := by rcases hb with h | h; · cases h
                          · exact h
    have v := val_pos p b (by omega) h1
    have hx := hp x (by simp)
    have ih := varL_val p b (fun y hy => hp y (by simp [hy])) h0 h1 (Or.inr hb)
    simp only [List.cons_append, val]
    rw [varL, if_pos (by omega)]
    have e1 : (x % 128 + 128 * val (p ++ [b])).toNat / 128 = (val (p ++ [b])).toNat := by omega
    rw [e1, ih]
    congr 1; omega
theorem varL_no0 : ∀ (d n : Nat) (p : List Int), n < d → varL n = p ++ [0] → n = 0 ∧ p = [] := by
  intro d
  induction d with
  | zero => intro n p h; omega
  | succ d ih =>
    intro n p h e
    rw [varL] at e
    split at e
    · cases p with
      | nil =>
        have := (varL_len _ (n / 128) (Nat.lt_succ_self _)).1
        simp only [List.nil_append, List.cons.injEq] at e
        rw [e.2] at this
        simp at this
      | cons x p =>
        simp only [List.cons_append, List.cons.injEq] at e
        have := (ih (n / 128) p (by omega) e.2).1
        omega
    · cases p with
      | nil => simp at e; exact ⟨by omega, rfl⟩
      | cons x p => simp at e
theorem rv_bounds : ∀ (r k : Nat) (n m : Int) (l : List Int), 0 ≤ n → 0 ≤ m → (∀ x ∈ l, 0 ≤ x ∧ x < 256) → ∀ q j, rv r k n m l = some (q, j) → 0 ≤ q ∧ q ≤ 1000000000 ∧ k < j ∧ j ≤ k + r ∧ j ≤ k + l.length
  | 0, _, _, _, _, _, _, _, _, _, h => by simp [rv] at h
  | r + 1, k, n, m, [], _, _, _, _, _, h => by simp [rv] at h
  | r + 1, k, n, m, b :: l, hn, hm, hl, q, j, h => by
    have hb := hl b (by simp)
    have p : 0 ≤ b % 128 * m := Int.mul_nonneg (by omega) hm
    simp only [rv] at h
    by_cases c : b < 128
    · rw [if_pos c] at h
      by_cases z : (b = 0 ∧ 0 < k) ∨ n + b % 128 * m > 1000000000
      · rw [if_pos z] at h; cases h
      · rw [if_neg z] at h
        simp only [Option.some.injEq, Prod.mk.injEq] at h
        obtain ⟨rfl, rfl⟩ := h
        have z2 : ¬ n + b % 128 * m > 1000000000 := fun g => z (Or.inr g)
        refine ⟨Int.add_nonneg hn p, Int.not_lt.mp z2, by omega, by omega, by simp only [List.length_cons]; omega⟩
    · rw [if_neg c] at h
      have := rv_bounds r (k + 1) _ _ l (Int.add_nonneg hn p) (Int.mul_nonneg hm (by decide)) (fun x hx => hl x (by simp [hx])) q j h
      simp only [List.length_cons]
      refine ⟨this.1, this.2.1, ?_, ?_, ?_⟩ <;> omega
theorem rv_var : ∀ (r : Nat) (p l : List Int) (q : Int) (j : Nat), (∀ x ∈ p, 128 ≤ x ∧ x < 256) → (∀ x ∈ l, 0 ≤ x ∧ x < 256) → rv r p.length (val p) (pw p.length) l = some (q, j) → varL q.toNat = (p ++ l).take j
  | 0, _, _, _, _, _, _, h => by simp [rv] at h
  | r + 1, p, [], _, _, _, _, h => by simp [rv] at h
  | r + 1, p, b :: l, q, j, hp, hl, h => by
    have hb := hl b (by simp)
    simp only [rv] at h
    rw [← val_snoc] at h
    by_cases c : b < 128
    · rw [if_pos c] at h
      by_cases z : (b = 0 ∧ 0 < p.length) ∨ val (p ++ [b]) > 1000000000
      · rw [if_pos z] at h; cases h
      · rw [if_neg z] at h
        simp only [Option.some.injEq, Prod.mk.injEq] at h
        obtain ⟨rfl, rfl⟩ := h
        rw [take_snoc_cons]
        refine varL_val p b hp hb.1 c ?_
        cases p with
        | nil => left; rfl
        | cons x p => right; intro e; exact z (Or.inl ⟨e, by simp⟩)
    · rw [if_neg c, ← pw_succ] at h
      have e : (p ++ [b]).length = p.length + 1 := by simp
      rw [← e] at h
      have := rv_var r (p ++ [b]) l q j (by
        intro x hx
        rcases List.mem_append.mp hx with hx | hx
        · exact hp x hx
        · rw [List.mem_singleton] at hx; rw [hx]; omega) (fun x hx => hl x (by simp [hx])) h
      rw [this, List.append_assoc]
      rfl
theorem rv_var0 (l : List Int) (q : Int) (j : Nat) (hl : ∀ x ∈ l, 0 ≤ x ∧ x < 256) (h : rv 5 0 0 1 l = some (q, j)) : varL q.toNat = l.take j := by
  have := rv_var 5 [] l q j (by simp) hl (by simpa [val, pw_vals.1] using h)
  simpa using this
/-- the bytes of a number: all but the last at least 128 -/
theorem varL_form : ∀ (d n : Nat), n < d → ∃ p b, varL n = p ++ [b] ∧ (∀ x ∈ p, 128 ≤ x ∧ x < 256) ∧ 0 ≤ b ∧ b < 128 ∧ (p = [] ∨ b ≠ 0) ∧ val (p ++ [b]) = n := by
  intro d
  induction d with
  | zero => intro n h; omega
  | succ d ih =>
    intro n h
    by_cases c : 127 < n
    · obtain ⟨p, b, e, hp, h0, h1, hb, hv⟩ := ih (n / 128) (by omega)
      refine ⟨((n % 128 + 128 : Nat) : Int) :: p, b, by rw [varL, if_pos c, e]; rfl, ?_, h0, h1, ?_, ?_⟩
      · intro x hx
        rcases List.mem_cons.mp hx with rfl | hx
        · omega
        · exact hp x hx
      · right
        rintro rfl
        have := (varL_no0 _ (n / 128) p (Nat.lt_succ_self _) e).1
        omega
      · simp only [List.cons_append, val, hv]
        omega
    · refine ⟨[], (n : Int), by rw [varL, if_neg c]; rfl, by simp, by omega, by omega, Or.inl rfl, ?_⟩
      simp only [List.nil_append, val]
      omega
theorem rv_go : ∀ (p1 p0 : List Int) (r : Nat) (b : Int) (rest : List Int), (∀ x ∈ p1, 128 ≤ x) → b < 128 → p1.length < r → rv r p0.length (val p0) (pw p0.length) (p1 ++ b :: rest) = if (b = 0 ∧ 0 < (p0 ++ p1).length) ∨ val (p0 ++ p1 ++ [b]) > 1000000000 then none else some (val (p0 ++ p1 ++ [b]), (p0 ++ p1).length + 1)
  | [], p0, r, b, rest, _, hb, hr => by
    obtain ⟨r, rfl⟩ := succ_of hr
    simp only [List.nil_append, rv]
    rw [if_pos hb, ← val_snoc, List.append_nil]
  | x :: p1, p0, r, b, rest, hp, hb, hr => by
    obtain ⟨r, rfl⟩ := succ_of hr
    have hx := hp x (by simp)
    simp only [List.cons_append, rv]
    rw [if_neg (by omega), ← val_snoc, ← pw_succ]
    have := rv_go p1 (p0 ++ [x]) r b rest (fun y hy => hp y (by simp [hy])) hb (by simp only [List.length_cons] at hr; omega)
    have e : (p0 ++ [x]).length = p0.length + 1 := by simp
    rw [e] at this
    rw [this]
    simp [List.append_assoc]
theorem varL_len5 : ∀ (d n : Nat), n < 128 ^ (d + 1) → (varL n).length ≤ d + 1
  | 0, n, h => by
    rw [varL, if_neg (by simp at h; omega)]; simp
  | d + 1, n, h => by
    rw [varL]
    split
    · have := varL_len5 d (n / 128) (by rw [Nat.pow_succ] at h; omega)
      simp only [List.length_cons]; omega
    · simp
theorem rv_read (n : Nat) (rest : List Int) (h : n ≤ 1000000000) : rv 5 0 0 1 (varL n ++ rest) = some ((n : Int), (varL n).length) := by
  obtain ⟨p, b, e, hp, h0, h1, hb, hv⟩ := varL_form _ n (Nat.lt_succ_self _)
  have l5 := varL_len5 4 n (by omega)
  rw [e, List.length_append, List.length_singleton] at l5
  have g := rv_go p [] 5 b rest (fun x hx => (hp x hx).1) h1 (by omega)
  simp only [List.nil_append, List.length_nil, val, pw_vals.1, hv] at g
  rw [e, List.append_assoc]
  simp only [List.singleton_append]
  rw [g, if_neg]
  · simp
  · intro q
    rcases q with ⟨q1, q2⟩ | q
    · rcases hb with hb | hb
      · rw [hb] at q2; simp at q2
      · exact hb q1
    · omega
/-- of a number's bytes that are cut, nothing is read -/
theorem rv_cut : ∀ (p1 : List Int) (r k : Nat) (n m : Int), (∀ x ∈ p1, 128 ≤ x) → rv r k n m p1 = none
  | [], 0, _, _, _, _ => rfl
  | [], _ + 1, _, _, _, _ => rfl
  | x :: p1, 0, _, _, _, _ => rfl
  | x :: p1, r + 1, k, n, m, h => by
    have hx := h x (by simp)
    simp only [rv]
    rw [if_neg (by omega)]
    exact rv_cut p1 r _ _ _ (fun y hy => h y (by simp [hy]))

-- snippet unframe
theorem extract_bl (s : ByteArray) (a n : Nat) : bl (s.extract a (a + n)) = ((bl s).drop a).take n := by
  rw [bl_extract, Nat.add_sub_cancel_left]
theorem extract_size (s : ByteArray) (a n : Nat) (h : a + n ≤ s.size) : (s.extract a (a + n)).size = n := by
  rw [ByteArray.size_extract]; omega
/-- the frame at a place: the text's place and length -/
def uf (s : ByteArray) (a : Nat) : Option (Nat × Nat) :=
  match rv 5 0 0 1 ((bl s).drop a) with
  | none => none
  | some (n, j) => if 1 ≤ n ∧ n ≤ 9000 ∧ a + j + 4 + n.toNat ≤ s.size ∧ ((bl s).drop (a + j)).take 4 = fourL (sumL 4294967295 (((bl s).drop (a + j + 4)).take n.toNat)) then some (a + j + 4, n.toNat) else none
theorem uf_bounds (s : ByteArray) (a b n : Nat) (h : uf s a = some (b, n)) : a < b ∧ b + n ≤ s.size ∧ 1 ≤ n ∧ n ≤ 9000 := by
  unfold uf at h
  have w := rv_bounds 5 0 0 1 ((bl s).drop a) (by decide) (by decide) (fun x hx => bl_range s x (List.mem_of_mem_drop hx))
  cases hv : rv 5 0 0 1 ((bl s).drop a) with
  | none => rw [hv] at h; simp at h
  | some q =>
    obtain ⟨m, j⟩ := q
    have w := w m j hv
    rw [hv] at h
    simp only at h
    split at h
    · rename_i c
      simp only [Option.some.injEq, Prod.mk.injEq] at h
      omega
    · cases h

-- snippet sumimpl
theorem impl_sum_l1 (K : Nat) (x : Int) (s : ByteArray) (i j : Int) (h : 0 ≤ x ∧ x < 4294967296) (h0 : 0 ≤ j) (hj : j < 8) : impl_SumMore.l1 (K + 1) x s i j = impl_SumMore.l1 K (sh x) s i (j + 1) := by
  simp only [impl_SumMore.l1]
  rw [if_pos hj, and1 x h.1 h.2, wr (j + 1) (by omega) (by omega)]
  unfold sh
  split <;> rfl
theorem impl_sum_l1_end (K : Nat) (x : Int) (s : ByteArray) (i : Int) : impl_SumMore.l1 (K + 1) x s i 8 = impl_SumMore.l0 K x s (wrap64 (i + 1)) := by
  simp only [impl_SumMore.l1]
  rw [if_neg (by omega)]
theorem impl_sum_byte (K i : Nat) (x : Int) (s : ByteArray) (hi : i < s.size) (hs : s.size < 140737488355328) : impl_SumMore.l0 (K + 10) x s i = impl_SumMore.l0 K (step8 x (bt s i)) s ((i + 1 : Nat) : Int) := by
  have e0 : impl_SumMore.l0 (K + 10) x s i = impl_SumMore.l1 (K + 9) (Go.bits .xor .u32 x (bt s i)) s i 0 := by
    have lo := bt_lo s i
    have hi2 := bt_hi s i
    have e : bt s i % 4294967296 = bt s i := by omega
    simp only [impl_SumMore.l0]
    rw [if_pos (by omega), if_pos (by omega), e]
  have r := xor32_range x (bt s i)
  rw [e0]
  have r1 := sh_range _ r
  have r2 := sh_range _ r1
  have r3 := sh_range _ r2
  have r4 := sh_range _ r3
  have r5 := sh_range _ r4
  have r6 := sh_range _ r5
  have r7 := sh_range _ r6
  rw [impl_sum_l1 (K + 8) _ s i 0 r (by decide) (by decide), impl_sum_l1 (K + 7) _ s i _ r1 (by decide) (by decide), impl_sum_l1 (K + 6) _ s i _ r2 (by decide) (by decide), impl_sum_l1 (K + 5) _ s i _ r3 (by decide) (by decide), impl_sum_l1 (K + 4) _ s i _ r4 (by decide) (by decide), impl_sum_l1 (K + 3) _ s i _ r5 (by decide) (by decide), impl_sum_l1 (K + 2) _ s i _ r6 (by decide) (by decide), impl_sum_l1 (K + 1) _ s i _ r7 (by decide) (by decide)]
  have e8 : (0 + 1 + 1 + 1 + 1 + 1 + 1 + 1 + 1 : Int) = 8 := by decide
  rw [e8, impl_sum_l1_end, wr _ (by omega) (by omega)]
  rfl
theorem impl_sum_l0 (s : ByteArray) (hs : s.size < 140737488355328) : ∀ (d K i : Nat) (x : Int), i + d = s.size → 10 * d + 1 ≤ K → impl_SumMore.l0 K x s i = some (sumL x ((bl s).drop i)) := by
  intro d
  induction d with
  | zero =>
    intro K i x h hK
    obtain ⟨K, rfl⟩ := succ_of hK
    simp only [impl_SumMore.l0]
    rw [if_neg (by omega), drop_end s i (by omega)]
    rfl
  | succ d ih =>
    intro K i x h hK
    obtain ⟨K, rfl⟩ : ∃ m, K = m + 10 := ⟨K - 10, by omega⟩
    rw [impl_sum_byte K i x s (by omega) hs, ih K (i + 1) _ (by omega) (by omega), drop_bt s i (by omega)]
    rfl
theorem impl_SumMore_f (K : Nat) (x : Int) (s : ByteArray) (hs : s.size < 140737488355328) (hK : 10 * s.size + 1 ≤ K) : impl_SumMore.f K x s = some (sumL x (bl s)) := by
  have := impl_sum_l0 s hs s.size K 0 x (by omega) hK
  unfold impl_SumMore.f
  simpa using this

-- snippet sumof_impl
theorem impl_SumOf_f (K : Nat) (s : ByteArray) (hs : s.size < 140737488355328) (hK : 10 * s.size + 1 ≤ K) : impl_SumOf.f K s = some (sumL 4294967295 (bl s)) := by
  unfold impl_SumOf.f
  rw [impl_SumMore_f K _ s hs hK]
  rfl

-- snippet unframe_impl
theorem impl_unf_step (s : ByteArray) (hs : s.size ≤ 20000) (a : Nat) (ha : a ≤ s.size) (K : Nat) (hK : 1000000020 ≤ K) (acc : List ByteArray) (hl : acc.length < 8796093022208) :
    impl_Unframe.l0 (K + 2) s acc a = match uf s a with
      | none => some (acc, (a : Int))
      | some (b, n) => impl_Unframe.l0 K s (acc ++ [s.extract b (b + n)]) ((b + n : Nat) : Int) := by
  have w := rv_bounds 5 0 0 1 ((bl s).drop a) (by decide) (by decide) (fun x hx => bl_range s x (List.mem_of_mem_drop hx))
  have u : impl_Unframe.l0 (K + 2) s acc a = (impl_ReadVar.f (K + 1) s a).bind fun bt136 => (if bt136.2.2 = true then ((impl_in.f bt136.1 1 9000).bind fun t139 => (if t139 = true then (impl_Unframe.j1 (K + 1) s acc a bt136.1 bt136.2.1 (decide (bt136.1 > (wrap64 ((wrap64 ((s.size : Int) - bt136.2.1)) - 4))))) else (impl_Unframe.j1 (K + 1) s acc a bt136.1 bt136.2.1 true))) else (impl_Unframe.j1 (K + 1) s acc a bt136.1 bt136.2.1 true)) := by simp only [impl_Unframe.l0]
  have stop : ∀ n m : Int, impl_Unframe.j1 (K + 1) s acc a n m true = some (acc, (a : Int)) := by
    intro n m
    simp only [impl_Unframe.j1, if_true]
  rw [u, impl_ReadVar_f (K + 1) s a (by omega) (by omega) (by omega) (by omega), Option.bind_some, Int.toNat_natCast]
  unfold uf
  cases hv : rv 5 0 0 1 ((bl s).drop a) with
  | none => simp only [rvOut, Bool.false_eq_true, if_false]; exact stop _ _
  | some q =>
    obtain ⟨n, j⟩ := q
    obtain ⟨w0, w1, w2, w3, w4⟩ := w n j hv
    rw [List.length_drop, bl_len] at w4
    rw [show rvOut a (some (n, j)) = (n, ((a + j : Nat) : Int), true) from rfl]
    dsimp only
    rw [if_pos rfl]
    by_cases r : 1 ≤ n ∧ n ≤ 9000
    · have ri : impl_in.f n 1 9000 = some true := by unfold impl_in.f; rw [if_pos r.1]; simp [r.2]
      rw [ri, Option.bind_some, if_pos rfl]
      rw [wr ((s.size : Int) - ((a + j : Nat) : Int)) (by omega) (by omega), wr ((s.size : Int) - ((a + j : Nat) : Int) - 4) (by omega) (by omega)]
      by_cases g : n > (s.size : Int) - ((a + j : Nat) : Int) - 4
      · rw [show decide (n > (s.size : Int) - ((a + j : Nat) : Int) - 4) = true by simp; omega, stop, if_neg (by omega)]
      · obtain ⟨m, rfl⟩ := Int.eq_ofNat_of_zero_le w0
        rw [show decide (((m : Nat) : Int) > (s.size : Int) - ((a + j : Nat) : Int) - 4) = false by simp; omega]
        simp only [impl_Unframe.j1, Bool.false_eq_true, if_false]
        have e4 : wrap64 (((a + j : Nat) : Int) + 4) = ((a + j + 4 : Nat) : Int) := by rw [wr _ (by omega) (by omega)]; omega
        have e5 : wrap64 (((a + j + 4 : Nat) : Int) + (m : Int)) = ((a + j + 4 + m : Nat) : Int) := by rw [wr _ (by omega) (by omega)]; omega
        have b4 : a + j + 4 + m ≤ s.size := by omega
        have sx := extract_size s (a + j + 4) m b4
        rw [e4, e5, if_pos (show 0 ≤ ((a + j + 4 : Nat) : Int) by omega), if_pos (show ((a + j + 4 : Nat) : Int) ≤ ((a + j + 4 + m : Nat) : Int) by omega), if_pos (show ((a + j + 4 + m : Nat) : Int) ≤ (s.size : Int) by omega), if_pos (show 0 ≤ ((a + j : Nat) : Int) by omega), if_pos (show ((a + j : Nat) : Int) ≤ ((a + j + 4 : Nat) : Int) by omega), if_pos (show ((a + j + 4 : Nat) : Int) ≤ (s.size : Int) by omega)]
        simp only [Int.toNat_natCast]
        rw [impl_SumOf_f K _ (by omega) (by omega), Option.bind_some]
        simp only [impl_fourBytes.f, Option.bind_some]
        have e6 : (s.extract (a + j) (a + j + 4)).toList = (strOfNums [sumL 4294967295 (bl (s.extract (a + j + 4) (a + j + 4 + m))) / 16777216 % 256, sumL 4294967295 (bl (s.extract (a + j + 4) (a + j + 4 + m))) / 65536 % 256, sumL 4294967295 (bl (s.extract (a + j + 4) (a + j + 4 + m))) / 256 % 256, sumL 4294967295 (bl (s.extract (a + j + 4) (a + j + 4 + m))) % 256]).toList ↔ ((bl s).drop (a + j)).take 4 = fourL (sumL 4294967295 (((bl s).drop (a + j + 4)).take m)) := by
          rw [toList_bl, extract_bl, extract_bl]
          rw [show ∀ z, [z / 16777216 % 256, z / 65536 % 256, z / 256 % 256, z % 256] = fourL z from fun _ => rfl, bl_str _ (fourL_range _)]
        by_cases c : ((bl s).drop (a + j)).take 4 = fourL (sumL 4294967295 (((bl s).drop (a + j + 4)).take m))
        · rw [if_pos (e6.mpr c), if_pos hl, if_pos ⟨r.1, r.2, b4, c⟩]
        · rw [if_neg (fun h => c (e6.mp h)), if_neg (fun h => c h.2.2.2)]
    · have ri : impl_in.f n 1 9000 = some false := by
        unfold impl_in.f
        split
        · simp; omega
        · rfl
      rw [ri, Option.bind_some, if_neg (by simp), if_neg (fun h => r ⟨h.1, h.2.1⟩)]
      exact stop _ _
/-- all frames, from a place on -/
def ufs (s : ByteArray) : Nat → Nat → List ByteArray × Nat
  | 0, a => ([], a)
  | d + 1, a => match uf s a with
    | none => ([], a)
    | some (b, n) => (s.extract b (b + n) :: (ufs s d (b + n)).1, (ufs s d (b + n)).2)
theorem impl_unf (s : ByteArray) (hs : s.size ≤ 20000) : ∀ (d a K : Nat) (acc : List ByteArray), a ≤ s.size → s.size < a + d → 1000000020 + 2 * d ≤ K → acc.length + d < 8796093022208 →
    impl_Unframe.l0 K s acc a = some (acc ++ (ufs s d a).1, ((ufs s d a).2 : Int)) := by
  intro d
  induction d with
  | zero => intro a K acc h h1; omega
  | succ d ih =>
    intro a K acc h h1 hK hl
    obtain ⟨K, rfl⟩ : ∃ m, K = m + 2 := ⟨K - 2, by omega⟩
    rw [impl_unf_step s hs a h K (by omega) acc (by omega)]
    simp only [ufs]
    cases hu : uf s a with
    | none => simp
    | some q =>
      obtain ⟨b, n⟩ := q
      have ub := uf_bounds s a b n hu
      simp only
      rw [ih (b + n) K _ (by omega) (by omega) (by omega) (by simp; omega)]
      simp
theorem impl_Unframe_f (K : Nat) (s : ByteArray) (hK : 1000100000 ≤ K) : impl_Unframe.f K s = some (if s.size ≤ 20000 then ((ufs s (s.size + 1) 0).1, ((ufs s (s.size + 1) 0).2 : Int)) else ([], 0)) := by
  unfold impl_Unframe.f
  by_cases h : s.size ≤ 20000
  · rw [if_neg (show ¬ (s.size : Int) > 20000 by omega), if_pos h]
    have := impl_unf s h (s.size + 1) 0 K [] (by omega) (by omega) (by omega) (by simp; omega)
    simpa using this
  · rw [if_pos (show (s.size : Int) > 20000 by omega), if_neg h]
theorem ufs_len (s : ByteArray) : ∀ (d a : Nat), (ufs s d a).1.length ≤ d
  | 0, _ => by simp [ufs]
  | d + 1, a => by
    simp only [ufs]
    split
    · simp
    · have := ufs_len s d
      simp only [List.length_cons]
      have := ufs_len s d
      exact Nat.succ_le_succ (this _)

-- snippet varimpl
theorem impl_var : ∀ (d k n : Nat) (xs : List Int), n < d → d ≤ k → n < 4611686018427387904 → xs.length + d < 140737488355328 → impl_varText.l0 k n xs = some (strOfNums (xs ++ varL n)) := by
  intro d
  induction d with
  | zero => intro k n xs h; omega
  | succ d ih =>
    intro k n xs h hk hn hl
    obtain ⟨k, rfl⟩ := succ_of hk
    simp only [impl_varText.l0]
    by_cases c : 127 < n
    · rw [if_pos (by omega), if_pos (by omega)]
      have e1 : wrap64 (Int.tdiv (n : Int) 128) = ((n / 128 : Nat) : Int) := by rw [tdiv_pos _ _ (by omega), wr _ (by omega) (by omega)]; omega
      have e2 : (wrap64 (128 + Int.tmod (n : Int) 128)) % 256 = ((n % 128 + 128 : Nat) : Int) := by rw [tmod_pos _ _ (by omega), wr _ (by omega) (by omega)]; omega
      rw [e1, e2, ih k (n / 128) _ (by omega) (by omega) (by omega) (by simp; omega)]
      conv => rhs; rw [varL, if_pos c]
      simp
    · rw [if_neg (by omega), if_pos (by omega), varL, if_neg c]
      have : (n : Int) % 256 = n := by omega
      rw [this]
theorem impl_var_f (k : Nat) (n : Int) (h0 : 0 ≤ n) (h1 : n ≤ 1000000000) (hk : 1000000001 ≤ k) : impl_varText.f k n = some (strOfNums (varL n.toNat)) := by
  have := impl_var 1000000001 k n.toNat [] (by omega) hk (by omega) (by simp)
  rw [Int.toNat_of_nonneg h0] at this
  unfold impl_varText.f
  rw [this, List.nil_append]

-- snippet frame_impl
theorem impl_Frame_f (K : Nat) (s : ByteArray) (hs : s.size ≤ 140737488351232) (hK : 1000000020 ≤ K) : impl_Frame.f K s = some (if 1 ≤ s.size ∧ s.size ≤ 9000 then (frameB s, true) else ((⟨#[]⟩ : ByteArray), false)) := by
  unfold impl_Frame.f impl_in.f
  by_cases h1 : 1 ≤ s.size
  · rw [if_pos (show (s.size : Int) ≥ 1 by omega), Option.bind_some]
    by_cases h2 : s.size ≤ 9000
    · have l := varL_len _ (s.size) (Nat.lt_succ_self _)
      rw [if_pos (show decide ((s.size : Int) ≤ 9000) = true by simp; omega), if_pos ⟨h1, h2⟩, impl_var_f _ _ (by omega) (by omega) (by omega), Option.bind_some, impl_SumOf_f _ s (by omega) (by omega), Option.bind_some]
      simp only [impl_fourBytes.f, Option.bind_some, Int.toNat_natCast]
      rw [if_pos (by simp only [str_size, List.length_cons, List.length_nil]; omega), if_pos (by simp only [ByteArray.size_append, str_size, List.length_cons, List.length_nil]; omega)]
      rfl
    · rw [if_neg (show ¬ decide ((s.size : Int) ≤ 9000) = true by simp; omega), if_neg (fun h => h2 h.2)]
  · rw [if_neg (show ¬ (s.size : Int) ≥ 1 by omega), Option.bind_some, if_neg (by simp), if_neg (fun h => h1 h.1)]

-- snippet frames_law
/-- the frame of a text, as numbers -/
def frameL (x : List Int) : List Int := varL x.length ++ fourL (sumL 4294967295 x) ++ x
def framesL (l : List ByteArray) : List Int := (l.map fun x => frameL (bl x)).flatten
theorem frameB_L (x : ByteArray) : bl (frameB x) = frameL (bl x) := by rw [frame_bl]; unfold frameL; rw [bl_len]
theorem frameL_len (x : List Int) : (frameL x).length = (varL x.length).length + 4 + x.length := by
  unfold frameL; simp [fourL]; omega
theorem uf_whole (s : ByteArray) (a : Nat) (x : ByteArray) (rest : List Int) (h1 : 1 ≤ x.size) (h2 : x.size ≤ 9000) (h : (bl s).drop a = frameL (bl x) ++ rest) : uf s a = some (a + ((varL x.size).length + 4), x.size) ∧ s.extract (a + ((varL x.size).length + 4)) (a + ((varL x.size).length + 4) + x.size) = x ∧ (bl s).drop (a + (frameL (bl x)).length) = rest := by
  have hl := congrArg List.length h
  rw [List.length_drop, bl_len, List.length_append, frameL_len, bl_len] at hl
  have hd : ∀ j, (bl s).drop (a + j) = (frameL (bl x) ++ rest).drop j := by intro j; rw [← List.drop_drop, h]
  have d1 : (bl s).drop (a + (varL x.size).length) = fourL (sumL 4294967295 (bl x)) ++ (bl x ++ rest) := by
    rw [hd]
    unfold frameL
    rw [bl_len, List.append_assoc, List.append_assoc, List.drop_left]
  have d2 : (bl s).drop (a + ((varL x.size).length + 4)) = bl x ++ rest := by
    rw [← Nat.add_assoc, ← List.drop_drop, d1]
    rfl
  refine ⟨?_, ?_, ?_⟩
  · unfold uf
    rw [h]
    unfold frameL
    rw [bl_len, List.append_assoc, List.append_assoc, rv_read _ _ (by omega)]
    simp only
    rw [if_pos]
    · simp [Nat.add_assoc]
    · refine ⟨by omega, by omega, by simp only [Int.toNat_natCast]; omega, ?_⟩
      rw [d1, Nat.add_assoc, d2, Int.toNat_natCast]
      rw [show x.size = (bl x).length from (bl_len x).symm, List.take_left]
      rfl
  · apply bl_inj
    rw [extract_bl, d2, show x.size = (bl x).length from (bl_len x).symm, List.take_left]
  · rw [hd, List.drop_left]
theorem uf_cut (s : ByteArray) (a c : Nat) (x : ByteArray) (h1 : 1 ≤ x.size) (h2 : x.size ≤ 9000) (hc : c < (frameL (bl x)).length) (h : (bl s).drop a = (frameL (bl x)).take c) : uf s a = none := by
  have hl := congrArg List.length h
  rw [List.length_drop, bl_len, List.length_take, frameL_len, bl_len] at hl
  rw [frameL_len, bl_len] at hc
  unfold uf
  rw [h]
  obtain ⟨p, b, e, hp, h0, hb1, hb, hv⟩ := varL_form _ x.size (Nat.lt_succ_self _)
  by_cases g : c ≤ p.length
  · have : (frameL (bl x)).take c = p.take c := by
      unfold frameL
      rw [bl_len, e, List.append_assoc, List.append_assoc, List.take_append_of_le_length g]
    rw [this, rv_cut _ _ _ _ _ (fun y hy => (hp y (List.mem_of_mem_take hy)).1)]
  · have el : (varL x.size).length = p.length + 1 := by rw [e]; simp
    have : (frameL (bl x)).take c = varL x.size ++ (fourL (sumL 4294967295 (bl x)) ++ bl x).take (c - (varL x.size).length) := by
      unfold frameL
      rw [bl_len, List.append_assoc, List.take_append, List.take_of_length_le (by omega)]
    rw [this, rv_read _ _ (by omega)]
    simp only
    rw [if_neg]
    intro q
    have := q.2.2.1
    simp only [Int.toNat_natCast] at this
    omega
theorem framesL_cons (x : ByteArray) (l : List ByteArray) : framesL (x :: l) = frameL (bl x) ++ framesL l := by simp [framesL]
theorem ufs_frames : ∀ (l : List ByteArray) (s : ByteArray) (a c d : Nat), (∀ x ∈ l, 1 ≤ x.size ∧ x.size ≤ 9000) → (bl s).drop a = (framesL l).take c → c ≤ (framesL l).length → a ≤ s.size → s.size < a + d →
    ∃ m, m ≤ l.length ∧ ufs s d a = (l.take m, a + (framesL (l.take m)).length) ∧ (framesL (l.take m)).length ≤ c ∧ (m < l.length → c < (framesL (l.take (m + 1))).length)
  | _, s, a, c, 0, _, _, _, h1, h2 => by omega
  | [], s, a, c, d + 1, _, h, hc, h1, h2 => by
    refine ⟨0, Nat.le_refl _, ?_, by simp [framesL], by simp⟩
    have : uf s a = none := by
      unfold uf
      rw [h]
      simp [framesL, rv]
    simp only [ufs]
    rw [this]
    simp [framesL]
  | x :: l, s, a, c, d + 1, hx, h, hc, h1, h2 => by
    have hx0 := hx x (by simp)
    by_cases g : (frameL (bl x)).length ≤ c
    · have e : (framesL (x :: l)).take c = frameL (bl x) ++ (framesL l).take (c - (frameL (bl x)).length) := by
        rw [framesL_cons, List.take_append, List.take_of_length_le g]
      rw [e] at h
      obtain ⟨u1, u2, u3⟩ := uf_whole s a x _ hx0.1 hx0.2 h
      have ub := uf_bounds s a _ _ u1
      have fl := frameL_len (bl x)
      rw [bl_len] at fl
      rw [framesL_cons, List.length_append] at hc
      obtain ⟨m, m1, m2, m3, m4⟩ := ufs_frames l s (a + (frameL (bl x)).length) (c - (frameL (bl x)).length) d (fun y hy => hx y (by simp [hy])) u3 (by omega) (by omega) (by omega)
      refine ⟨m + 1, by simp; omega, ?_, ?_, ?_⟩
      · simp only [ufs]
        rw [u1]
        simp only
        rw [u2, show a + ((varL x.size).length + 4) + x.size = a + (frameL (bl x)).length by omega, m2]
        simp [framesL_cons]
        omega
      · simp only [List.take_succ_cons, framesL_cons, List.length_append]
        omega
      · intro hm
        simp only [List.length_cons] at hm
        have := m4 (by omega)
        simp only [List.take_succ_cons, framesL_cons, List.length_append] at this ⊢
        omega
    · have e : (framesL (x :: l)).take c = (frameL (bl x)).take c := by
        rw [framesL_cons, List.take_append_of_le_length (by omega)]
      rw [e] at h
      refine ⟨0, by simp, ?_, by simp [framesL], ?_⟩
      · simp only [ufs]
        rw [uf_cut s a c x hx0.1 hx0.2 (by omega) h]
        simp [framesL]
      · intro _
        simp only [Nat.zero_add, List.take_succ_cons, List.take_zero, framesL_cons, List.length_append]
        omega
theorem sameT_l0 (l : List ByteArray) (h : l.length < 1000000000) : ∀ (d K i : Nat), i + d = l.length → d < K → laws_sameTexts.l0 K l l i = some true := by
  intro d
  induction d with
  | zero =>
    intro K i hi hK
    obtain ⟨K, rfl⟩ := succ_of hK
    simp only [laws_sameTexts.l0]
    rw [if_neg (by omega)]
  | succ d ih =>
    intro K i hi hK
    obtain ⟨K, rfl⟩ := succ_of hK
    simp only [laws_sameTexts.l0]
    rw [if_pos (by omega), if_pos (by omega), if_pos (by omega), if_true, wr _ (by omega) (by omega), show ((i : Int) + 1) = ((i + 1 : Nat) : Int) by omega]
    exact ih K (i + 1) (by omega) (by omega)
theorem sameT_f (l : List ByteArray) (K : Nat) (h : l.length < 1000000000) (hK : l.length < K) : laws_sameTexts.f K l l = some true := by
  have := sameT_l0 l h l.length K 0 (by omega) hK
  unfold laws_sameTexts.f
  rw [if_pos rfl]
  simpa using this

-- snippet draw
/-! draws -/
theorem mask_range (x : Int) : 0 ≤ Go.bits .and .i64 x 255 ∧ Go.bits .and .i64 x 255 ≤ 255 := by
  unfold Go.bits
  have h : (BitVec.ofInt IntKind.i64.bits x &&& BitVec.ofInt IntKind.i64.bits 255).toNat ≤ 255 := by
    rw [BitVec.toNat_and]
    exact Nat.le_trans Nat.and_le_right (by decide)
  simp only [IntKind.wrap_i64]
  generalize (BitVec.ofInt IntKind.i64.bits x &&& BitVec.ofInt IntKind.i64.bits 255).toNat = n at h
  omega
def curOk (b : List Int) (i : Int) : Prop := 0 ≤ i ∧ i ≤ b.length
theorem byte_ok (b : List Int) (hb : b.length ≤ 1048576) (i h : Int) (hi : curOk b i) : ∃ x i' h', spec_l01Byte.f b i h = some (x, i', h') ∧ 0 ≤ x ∧ x ≤ 255 ∧ curOk b i' := by
  obtain ⟨h0, h1⟩ := hi
  unfold spec_l01Byte.f
  by_cases c : i < (b.length : Int)
  · rw [if_pos c, if_pos h0, wr (i + 1) (by omega) (by omega)]
    exact ⟨_, _, _, rfl, (mask_range _).1, (mask_range _).2, by unfold curOk; omega⟩
  · rw [if_neg c]
    exact ⟨_, _, _, rfl, (mask_range _).1, (mask_range _).2, ⟨h0, h1⟩⟩
theorem below_ok (b : List Int) (hb : b.length ≤ 1048576) (i h n : Int) (hi : curOk b i) (hn : 0 < n) : ∃ x i' h', spec_l01Below.f b i h n = some (x, i', h') ∧ 0 ≤ x ∧ x < n ∧ curOk b i' := by
  unfold spec_l01Below.f
  rw [if_neg (show ¬ n ≤ 0 by omega)]
  obtain ⟨x1, i1, h1, e1, l1, u1, c1⟩ := byte_ok b hb i h hi
  by_cases c : n ≤ 256
  · rw [if_pos c, e1, Option.bind_some, if_neg (show ¬ n = 0 by omega)]
    exact ⟨_, _, _, rfl, Int.tmod_nonneg _ l1, Int.tmod_lt_of_pos _ hn, c1⟩
  · obtain ⟨x2, i2, h2, e2, l2, u2, c2⟩ := byte_ok b hb i1 h1 c1
    obtain ⟨x3, i3, h3, e3, l3, u3, c3⟩ := byte_ok b hb i2 h2 c2
    obtain ⟨x4, i4, h4, e4, l4, u4, c4⟩ := byte_ok b hb i3 h3 c3
    rw [if_neg c, e1, Option.bind_some]
    simp only
    rw [e2, Option.bind_some]
    simp only
    rw [e3, Option.bind_some]
    simp only
    rw [e4, Option.bind_some]
    simp only
    rw [if_neg (show ¬ n = 0 by omega), wr (x1 * 16777216) (by omega) (by omega), wr (x2 * 65536) (by omega) (by omega), wr (x3 * 256) (by omega) (by omega), wr (x1 * 16777216 + x2 * 65536) (by omega) (by omega), wr (x1 * 16777216 + x2 * 65536 + x3 * 256) (by omega) (by omega), wr (x1 * 16777216 + x2 * 65536 + x3 * 256 + x4) (by omega) (by omega)]
    exact ⟨_, _, _, rfl, Int.tmod_nonneg _ (by omega), Int.tmod_lt_of_pos _ hn, c4⟩
theorem new_l0 (b : List Int) (hb : b.length ≤ 1048576) : ∀ (d : Nat) (i : Nat) (h : Int), i + d = 4000 → ∃ h', ∀ K, d < K → spec_l01New.l0 K b h i = some (b, 0, h') := by
  intro d
  induction d with
  | zero =>
    intro i h hi
    refine ⟨h, fun K hK => ?_⟩
    obtain ⟨K, rfl⟩ := succ_of hK
    simp only [spec_l01New.l0]
    by_cases c : (i : Int) < (b.length : Int)
    · rw [if_pos c, if_neg (show ¬ (i : Int) < 4000 by omega)]
    · rw [if_neg c]
  | succ d ih =>
    intro i h hi
    by_cases c : (i : Int) < (b.length : Int)
    · obtain ⟨h', e⟩ := ih (i + 1) (Go.bits .and .i64 (wrap64 ((wrap64 ((wrap64 (h * 131)) + (wrap64 (rd b i)))) + 7)) 1073741823) (by omega)
      refine ⟨h', fun K hK => ?_⟩
      obtain ⟨K, rfl⟩ := succ_of hK
      simp only [spec_l01New.l0]
      rw [if_pos c, if_pos (show (i : Int) < 4000 by omega), if_pos (show 0 ≤ (i : Int) by omega), wr ((i : Int) + 1) (by omega) (by omega), show ((i : Int) + 1) = ((i + 1 : Nat) : Int) by omega]
      exact e K (by omega)
    · refine ⟨h, fun K hK => ?_⟩
      obtain ⟨K, rfl⟩ := succ_of hK
      simp only [spec_l01New.l0]
      rw [if_neg c]
theorem new_ok (b : List Int) (hb : b.length ≤ 1048576) : ∃ h', ∀ K, 4001 ≤ K → spec_l01New.f K b = some (b, 0, h') := by
  obtain ⟨h', e⟩ := new_l0 b hb 4000 0 (wrap64 (27401 + (b.length : Int))) (by omega)
  exact ⟨h', fun K hK => e K (by omega)⟩

-- snippet places
theorem places_l0 (b : List Int) (hb : b.length ≤ 1048576) : ∀ (d : Nat) (acc : List Int) (i h : Int), acc.length + d = 12 → curOk b i → (∀ x ∈ acc, 0 ≤ x ∧ x < 10000) → ∃ p : List Int, p.length = 12 ∧ (∀ x ∈ p, 0 ≤ x ∧ x < 10000) ∧ ∀ K, d < K → spec_DrawPlaces.l0 K acc (acc.length : Int) b i h = some p := by
  intro d
  induction d with
  | zero =>
    intro acc i h hl hi hx
    refine ⟨acc, by omega, hx, fun K hK => ?_⟩
    obtain ⟨K, rfl⟩ := succ_of hK
    simp only [spec_DrawPlaces.l0]
    rw [if_neg (show ¬ (acc.length : Int) < 12 by omega)]
  | succ d ih =>
    intro acc i h hl hi hx
    obtain ⟨x, i', h', e, l, u, c⟩ := below_ok b hb i h 10000 hi (by decide)
    obtain ⟨p, hp, hpx, ep⟩ := ih (acc ++ [x]) i' h' (by simp; omega) c (by
      intro y hy
      rcases List.mem_append.mp hy with hy | hy
      · exact hx y hy
      · rw [List.mem_singleton] at hy; omega)
    refine ⟨p, hp, hpx, fun K hK => ?_⟩
    obtain ⟨K, rfl⟩ := succ_of hK
    simp only [spec_DrawPlaces.l0]
    rw [if_pos (show (acc.length : Int) < 12 by omega), e, Option.bind_some, if_pos (show acc.length < 17592186044416 by omega), wr ((acc.length : Int) + 1) (by omega) (by omega)]
    have := ep K (by omega)
    rw [List.length_append, List.length_singleton] at this
    exact this
theorem places_ok (b : List Int) (hb : b.length ≤ 1048576) : ∃ p : List Int, p.length = 12 ∧ (∀ x ∈ p, 0 ≤ x ∧ x < 10000) ∧ ∀ K, 5000 ≤ K → spec_DrawPlaces.f K b = some p := by
  obtain ⟨h, e⟩ := new_ok b hb
  obtain ⟨x, i, h', e2, _, _, c⟩ := byte_ok b hb 0 h ⟨by omega, by omega⟩
  obtain ⟨p, hp, hx, e3⟩ := places_l0 b hb 12 [] i h' rfl c (by simp)
  refine ⟨p, hp, hx, fun K hK => ?_⟩
  unfold spec_DrawPlaces.f
  rw [e K (by omega), Option.bind_some]
  simp only
  rw [e2, Option.bind_some]
  exact e3 K (by omega)

-- snippet drawtext
theorem text_l0 (b : List Int) (hb : b.length ≤ 1048576) (n : Int) : ∀ (d : Nat) (j : Nat) (acc : List Int) (i h : Int), (n : Int) ≤ j + d → j + d ≤ 5000 → acc.length + d ≤ 5000 → curOk b i → (∀ x ∈ acc, 0 ≤ x ∧ x < 256) → ∃ t i' h', t.size ≤ acc.length + d ∧ curOk b i' ∧ ∀ K, d < K → spec_l01Text.l0 K n acc j b i h = some (t, i', h') := by
  intro d
  induction d with
  | zero =>
    intro j acc i h hn hj hl hi hx
    refine ⟨strOfNums acc, i, h, by rw [str_size acc]; omega, hi, fun K hK => ?_⟩
    obtain ⟨K, rfl⟩ := succ_of hK
    simp only [spec_l01Text.l0]
    rw [if_neg (show ¬ (j : Int) < n by omega)]
  | succ d ih =>
    intro j acc i h hn hj hl hi hx
    by_cases c : (j : Int) < n
    · obtain ⟨x, i', h', e, l, u, c'⟩ := byte_ok b hb i h hi
      obtain ⟨t, i2, h2, ht, c2, et⟩ := ih (j + 1) (acc ++ [x % 256]) i' h' (by omega) (by omega) (by simp; omega) c' (by
        intro y hy
        rcases List.mem_append.mp hy with hy | hy
        · exact hx y hy
        · rw [List.mem_singleton] at hy; omega)
      refine ⟨t, i2, h2, by simp at ht; omega, c2, fun K hK => ?_⟩
      obtain ⟨K, rfl⟩ := succ_of hK
      simp only [spec_l01Text.l0]
      rw [if_pos c, e, Option.bind_some, if_pos (show acc.length < 140737488355328 by omega), wr ((j : Int) + 1) (by omega) (by omega), show ((j : Int) + 1) = ((j + 1 : Nat) : Int) by omega]
      exact et K (by omega)
    · refine ⟨strOfNums acc, i, h, by rw [str_size acc]; omega, hi, fun K hK => ?_⟩
      obtain ⟨K, rfl⟩ := succ_of hK
      simp only [spec_l01Text.l0]
      rw [if_neg c]
theorem text_ok (b : List Int) (hb : b.length ≤ 1048576) (i h n : Int) (hi : curOk b i) (hn : 0 ≤ n) : ∃ t i' h', t.size ≤ 5000 ∧ (t.size : Int) ≤ n ∧ curOk b i' ∧ ∀ K, 6000 ≤ K → spec_l01Text.f K b i h n = some (t, i', h') := by
  by_cases c : n > 5000
  · obtain ⟨t, i', h', ht, c', e⟩ := text_l0 b hb 5000 5000 0 [] i h (by omega) (by omega) (by simp) hi (by simp)
    refine ⟨t, i', h', by simpa using ht, by simp at ht; omega, c', fun K hK => ?_⟩
    obtain ⟨K, rfl⟩ : ∃ m, K = m + 1 := ⟨K - 1, by omega⟩
    unfold spec_l01Text.f
    rw [if_pos c]
    simp only [spec_l01Text.j0]
    exact e K (by omega)
  · obtain ⟨m, rfl⟩ := Int.eq_ofNat_of_zero_le hn
    obtain ⟨t, i', h', ht, c', e⟩ := text_l0 b hb m m 0 [] i h (by omega) (by omega) (by simp; omega) hi (by simp)
    refine ⟨t, i', h', by simp at ht; omega, by simp at ht; omega, c', fun K hK => ?_⟩
    obtain ⟨K, rfl⟩ : ∃ m, K = m + 1 := ⟨K - 1, by omega⟩
    unfold spec_l01Text.f
    rw [if_neg c]
    simp only [spec_l01Text.j0]
    exact e K (by omega)
theorem once_ok (b : List Int) (hb : b.length ≤ 1048576) (i h n : Int) (hi : curOk b i) (hn : 0 < n) : ∃ x i' h', spec_l01Once.f b i h n = some (x, i', h') ∧ curOk b i' := by
  obtain ⟨x, i', h', e, _, _, c⟩ := below_ok b hb i h n hi hn
  unfold spec_l01Once.f
  rw [e]
  exact ⟨_, _, _, rfl, c⟩

-- snippet drawlong
theorem long_l0 (n x : Int) : ∀ (d j K : Nat) (l : List Int), (n : Int) = j + d → j + d < 1000000000 → d < K → l.length = j + d → spec_l01Long.l0 K n x l j = some (strOfNums (l.take j ++ List.replicate d x)) := by
  intro d
  induction d with
  | zero =>
    intro j K l hn hj hK hl
    obtain ⟨K, rfl⟩ := succ_of hK
    simp only [spec_l01Long.l0]
    rw [if_neg (show ¬ (j : Int) < n by omega), List.take_of_length_le (by omega)]
    simp
  | succ d ih =>
    intro j K l hn hj hK hl
    obtain ⟨K, rfl⟩ := succ_of hK
    simp only [spec_l01Long.l0]
    rw [if_pos (show (j : Int) < n by omega), if_pos (show 0 ≤ (j : Int) by omega), if_pos (show (j : Int) < (l.length : Int) by omega), wr ((j : Int) + 1) (by omega) (by omega), show ((j : Int) + 1) = ((j + 1 : Nat) : Int) by omega, Int.toNat_natCast, ih (j + 1) K _ (by omega) (by omega) (by omega) (by simp; omega)]
    congr 2
    rw [List.take_set, List.replicate_succ]
    have : (l.take (j + 1)).set j x = l.take j ++ [x] := by
      rw [List.take_succ_eq_append_getElem (show j < l.length by omega), List.set_append_right _ _ (by simp; omega)]
      simp [show min j l.length = j by omega]
    rw [this]
    simp
theorem long_ok (n x : Int) (h0 : 0 ≤ n) (h1 : n < 1000000000) (K : Nat) (hK : n < K) : spec_l01Long.f K n x = some (strOfNums (List.replicate n.toNat x)) := by
  obtain ⟨m, rfl⟩ := Int.eq_ofNat_of_zero_le h0
  unfold spec_l01Long.f
  rw [if_pos h0, if_pos (by simp; omega)]
  have := long_l0 m x m 0 K (List.replicate m 0) (by omega) (by omega) (by omega) (by simp)
  simpa using this

-- snippet drawhex
theorem drawhex_ok (b : List Int) (hb : b.length ≤ 1048576) : ∃ t, t.size ≤ 20001 ∧ ∀ K, 30000 ≤ K → spec_DrawHex.f K b = some t := by
  obtain ⟨h, e⟩ := new_ok b hb
  obtain ⟨x, i1, h1, e1, c1⟩ := once_ok b hb 0 h 60 ⟨by omega, by omega⟩ (by decide)
  cases x with
  | true =>
    obtain ⟨y, i2, h2, e2, l2, u2, c2⟩ := below_ok b hb i1 h1 2 c1 (by decide)
    have w : wrap64 (20000 + y) = 20000 + y := wr _ (by omega) (by omega)
    refine ⟨strOfNums (List.replicate (20000 + y).toNat 200), by rw [str_size]; simp; omega, fun K hK => ?_⟩
    unfold spec_DrawHex.f
    rw [e K (by omega), Option.bind_some]
    simp only
    rw [e1, Option.bind_some]
    simp only [if_true]
    rw [e2, Option.bind_some]
    simp only
    rw [w, long_ok _ _ (by omega) (by omega) K (by omega)]
    rfl
  | false =>
    obtain ⟨y, i2, h2, e2, l2, u2, c2⟩ := below_ok b hb i1 h1 30 c1 (by decide)
    obtain ⟨t, i3, h3, ht, _, c3, e3⟩ := text_ok b hb i2 h2 y c2 l2
    refine ⟨t, by omega, fun K hK => ?_⟩
    unfold spec_DrawHex.f
    rw [e K (by omega), Option.bind_some]
    simp only
    rw [e1, Option.bind_some]
    simp only [Bool.false_eq_true, if_false]
    rw [e2, Option.bind_some]
    simp only
    rw [e3 K (by omega)]
    rfl

theorem fr_loop (k : Nat) (p : List Int) (L : List ByteArray) (F : ByteArray) (E : List Int) (i : Nat) (x : ByteArray) (hi : i < L.length) (hL : L.length < 1000) (hx : rdOf ByteArray.empty L (i : Int) = x) (hf : impl_Frame.f k x = some (frameB x, true)) (hs : F.size + (frameB x).size ≤ 9223372036854775807) (hE : E.length < 1000) :
    laws_FnFrames.l0 (k + 1) p L F E i = laws_FnFrames.l0 k p L (F ++ frameB x) (E ++ [((F ++ frameB x).size : Int)]) ((i + 1 : Nat) : Int) := by
  simp only [laws_FnFrames.l0]
  rw [if_pos (show (i : Int) < (L.length : Int) by omega), if_pos (show 0 ≤ (i : Int) by omega), hx, hf, Option.bind_some]
  simp only [if_true]
  rw [if_pos hs, if_pos (show E.length < 17592186044416 by omega), wr ((i : Int) + 1) (by omega) (by omega)]
  rfl
theorem fr_end (k : Nat) (p : List Int) (L : List ByteArray) (F : ByteArray) (E : List Int) (i : Nat) (hi : L.length ≤ i) (hL : L.length < 1000) (hk : 1000 < k) (hu : impl_Unframe.f k F = some (L, (F.size : Int))) :
    laws_FnFrames.l0 (k + 1) p L F E i = laws_FnFrames.j3 k p L F E false := by
  simp only [laws_FnFrames.l0]
  rw [if_neg (show ¬ (i : Int) < (L.length : Int) by omega), hu, Option.bind_some]
  simp only [if_true]
  rw [sameT_f _ _ (by omega) (by omega)]
  rfl
theorem fr_cut (k : Nat) (p : List Int) (L : List ByteArray) (F : ByteArray) (E : List Int) (c m : Nat) (hp : 0 < p.length) (hF : F.size < 1000000) (hc : Int.tmod (rd p 0) ((F.size : Int) + 1) = (c : Int)) (hcF : c ≤ F.size) (hk : 1000 < k) (hL : L.length = 3) (hE : E.length = 4) (hm : m ≤ 3)
    (hu : impl_Unframe.f k (F.extract 0 c) = some (L.take m, rd E (m : Int))) (ha : rd E (m : Int) ≤ (c : Int)) (hn : m < 3 → (c : Int) < rd E ((m + 1 : Nat) : Int)) :
    laws_FnFrames.j3 (k + 1) p L F E false = some true := by
  have len : (L.take m).length = m := by rw [List.length_take]; omega
  simp only [laws_FnFrames.j3, Bool.false_eq_true, if_false]
  rw [wr ((F.size : Int) + 1) (by omega) (by omega), hc, if_pos (show 0 < (p.length : Int) by omega), if_neg (show ¬ ((F.size : Int) + 1) = 0 by omega), if_pos (show 0 ≤ (c : Int) by omega), if_pos (show (c : Int) ≤ (F.size : Int) by omega), Int.toNat_natCast, hu, Option.bind_some]
  dsimp only
  rw [len, if_pos (show (m : Int) ≤ 3 by omega), if_pos (show 0 ≤ (m : Int) by omega), if_pos (show (m : Int) < (E.length : Int) by omega), if_pos rfl, if_pos ha, if_pos (show (m : Int) ≤ (L.length : Int) by omega), Int.toNat_natCast, sameT_f _ _ (by rw [len]; omega) (by rw [len]; omega), Option.bind_some, if_pos rfl]
  by_cases g : m = 3
  · rw [if_pos (show (m : Int) = 3 by omega)]
  · have h := hn (by omega)
    rw [show ((m + 1 : Nat) : Int) = (m : Int) + 1 by omega] at h
    rw [if_neg (show ¬ (m : Int) = 3 by omega), wr ((m : Int) + 1) (by omega) (by omega), if_pos (show 0 ≤ (m : Int) + 1 by omega), if_pos (show (m : Int) + 1 < (E.length : Int) by omega)]
    simp only [Option.some.injEq, decide_eq_true_eq]
    exact h
theorem frames_end (x y z : ByteArray) (hx : 1 ≤ x.size ∧ x.size ≤ 900) (hy : 1 ≤ y.size ∧ y.size ≤ 900) (hz : 1 ≤ z.size ∧ z.size ≤ 900) (p : List Int) (hp : p.length = 12) (hpr : ∀ u ∈ p, 0 ≤ u ∧ u < 10000) (K : Nat) (hK : 1000200000 ≤ K) :
    laws_FnFrames.j1 K p [x, y, z] = some true := by
  have hall : ∀ u ∈ [x, y, z], 1 ≤ u.size ∧ u.size ≤ 9000 := by
    intro u hu
    simp only [List.mem_cons, List.not_mem_nil, or_false] at hu
    rcases hu with rfl | rfl | rfl <;> omega
  have fx := frameL_len (bl x)
  have fy := frameL_len (bl y)
  have fz := frameL_len (bl z)
  rw [bl_len] at fx fy fz
  have lx := varL_len5 4 x.size (by omega)
  have ly := varL_len5 4 y.size (by omega)
  have lz := varL_len5 4 z.size (by omega)
  have sx : (frameB x).size = (frameL (bl x)).length := by rw [← frameB_L, bl_len]
  have sy : (frameB y).size = (frameL (bl y)).length := by rw [← frameB_L, bl_len]
  have sz : (frameB z).size = (frameL (bl z)).length := by rw [← frameB_L, bl_len]
  have ux : (frameL (bl x)).length ≤ 1000 := by omega
  have uy : (frameL (bl y)).length ≤ 1000 := by omega
  have uz : (frameL (bl z)).length ≤ 1000 := by omega
  have px : 1 ≤ (frameL (bl x)).length := by omega
  have py : 1 ≤ (frameL (bl y)).length := by omega
  have pz : 1 ≤ (frameL (bl z)).length := by omega
  have bf : ∀ u ∈ [x, y, z], ∀ K', 1000000020 ≤ K' → impl_Frame.f K' u = some (frameB u, true) := fun u hu K' h => by
    have := hall u hu
    rw [impl_Frame_f K' u (by omega) h, if_pos this]
  have z0 : (⟨#[]⟩ : ByteArray).size = 0 := rfl
  have s1 : ((⟨#[]⟩ : ByteArray) ++ frameB x).size = (frameL (bl x)).length := by rw [ByteArray.size_append, z0, sx]; omega
  have s2 : ((⟨#[]⟩ : ByteArray) ++ frameB x ++ frameB y).size = (frameL (bl x)).length + (frameL (bl y)).length := by rw [ByteArray.size_append, s1, sy]
  have s3 : ((⟨#[]⟩ : ByteArray) ++ frameB x ++ frameB y ++ frameB z).size = (frameL (bl x)).length + (frameL (bl y)).length + (frameL (bl z)).length := by rw [ByteArray.size_append, s2, sz]
  clear fx fy fz lx ly lz
  have bF : bl ((⟨#[]⟩ : ByteArray) ++ frameB x ++ frameB y ++ frameB z) = framesL [x, y, z] := by
    rw [bl_append, bl_append, bl_append, bl_nil, frameB_L, frameB_L, frameB_L]
    simp [framesL]
  have L1 : (framesL [x]).length = (frameL (bl x)).length := by simp [framesL]
  have L2 : (framesL [x, y]).length = (frameL (bl x)).length + (frameL (bl y)).length := by simp [framesL]
  have L3 : (framesL [x, y, z]).length = (frameL (bl x)).length + (frameL (bl y)).length + (frameL (bl z)).length := by simp [framesL]; omega
  obtain ⟨K, rfl⟩ : ∃ m, K = m + 6 := ⟨K - 6, by omega⟩
  have j1 : ∀ k, laws_FnFrames.j1 (k + 1) p [x, y, z] = laws_FnFrames.l0 k p [x, y, z] (⟨#[]⟩ : ByteArray) [0] ((0 : Nat) : Int) := fun k => by simp only [laws_FnFrames.j1]; rfl
  rw [j1, fr_loop (K + 4) p _ _ _ 0 x (by simp) (by simp) rfl (bf x (by simp) _ (by omega)) (by rw [z0, sx]; omega) (by simp)]
  rw [fr_loop (K + 3) p _ _ _ (0 + 1) y (by simp) (by simp) rfl (bf y (by simp) _ (by omega)) (by rw [s1, sy]; omega) (by simp)]
  rw [fr_loop (K + 2) p _ _ _ (0 + 1 + 1) z (by simp) (by simp) rfl (bf z (by simp) _ (by omega)) (by rw [s2, sz]; omega) (by simp)]
  rw [s1, s2, s3]
  generalize hF : (⟨#[]⟩ : ByteArray) ++ frameB x ++ frameB y ++ frameB z = F at *
  clear hF z0 s1 s2 bf sx sy sz j1
  have big : F.size ≤ 20000 := by omega
  have zF : F.size = (framesL [x, y, z]).length := by rw [s3, L3]
  -- all of it
  have all : ∀ K', 1000100000 ≤ K' → impl_Unframe.f K' F = some ([x, y, z], (F.size : Int)) := fun K' h => by
    obtain ⟨m, m1, m2, m3, m4⟩ := ufs_frames [x, y, z] F 0 (framesL [x, y, z]).length (F.size + 1) hall (by rw [List.drop_zero, bF, List.take_length]) (Nat.le_refl _) (Nat.zero_le _) (by omega)
    have m5 : m = 3 := by
      simp only [List.length_cons, List.length_nil] at m1 m4
      rcases (by omega : m = 0 ∨ m = 1 ∨ m = 2 ∨ m = 3) with rfl | rfl | rfl | rfl
      · have := m4 (by omega); simp only [Nat.zero_add, List.take_succ_cons, List.take_zero] at this; omega
      · have := m4 (by omega); simp only [List.take_succ_cons, List.take_zero, Nat.reduceAdd] at this; omega
      · have := m4 (by omega); simp only [List.take_succ_cons, List.take_zero, Nat.reduceAdd] at this; omega
      · rfl
    subst m5
    rw [impl_Unframe_f K' F h, if_pos big, m2]
    simp only [List.take_succ_cons, List.take_zero, Nat.zero_add]
    rw [zF]
  rw [fr_end (K + 1) p _ _ _ _ (by simp) (by simp) (by omega) (all _ (by omega))]
  -- cut
  have hq : 0 ≤ rd p 0 := by
    unfold rd
    rw [List.getD_eq_getElem?_getD, List.getElem?_eq_getElem (show (0 : Int).toNat < p.length by rw [hp]; decide)]
    exact (hpr _ (List.getElem_mem _)).1
  have t0 : 0 ≤ Int.tmod (rd p 0) ((F.size : Int) + 1) := Int.tmod_nonneg _ hq
  have t1 : Int.tmod (rd p 0) ((F.size : Int) + 1) < (F.size : Int) + 1 := Int.tmod_lt_of_pos _ (by omega)
  obtain ⟨c, hc⟩ := Int.eq_ofNat_of_zero_le t0
  rw [hc] at t1
  have cF : c ≤ F.size := by omega
  have bc : bl (F.extract 0 c) = (framesL [x, y, z]).take c := by rw [bl_extract, List.drop_zero, Nat.sub_zero, bF]
  have zc : (F.extract 0 c).size = c := by rw [ByteArray.size_extract]; omega
  obtain ⟨m, q1, q2, q3, q4⟩ := ufs_frames [x, y, z] (F.extract 0 c) 0 c ((F.extract 0 c).size + 1) hall (by rw [List.drop_zero, bc]) (by omega) (Nat.zero_le _) (by omega)
  simp only [List.length_cons, List.length_nil] at q1 q4
  have ends : ∀ j : Nat, j ≤ 3 → rd ([0] ++ [((frameL (bl x)).length : Int)] ++ [(((frameL (bl x)).length + (frameL (bl y)).length : Nat) : Int)] ++ [(((frameL (bl x)).length + (frameL (bl y)).length + (frameL (bl z)).length : Nat) : Int)]) (j : Int) = ((framesL ([x, y, z].take j)).length : Int) := by
    intro j hj
    rcases (by omega : j = 0 ∨ j = 1 ∨ j = 2 ∨ j = 3) with rfl | rfl | rfl | rfl
    · rfl
    · simp only [List.take_succ_cons, List.take_zero]; rw [L1]; rfl
    · simp only [List.take_succ_cons, List.take_zero]; rw [L2]; rfl
    · simp only [List.take_succ_cons, List.take_zero]; rw [L3]; rfl
  refine fr_cut K p _ F _ c m (by omega) (by omega) hc cF (by omega) rfl rfl (by omega) ?_ ?_ ?_
  · rw [impl_Unframe_f K _ (by omega), if_pos (by omega), q2, Nat.zero_add, ends m (by omega)]
  · rw [ends m (by omega)]; omega
  · intro hm
    have := q4 (by omega)
    rw [ends (m + 1) (by omega)]; omega
theorem FnFrames : laws_FnFrames.Pure := by
  intro l hl _ _
  by_cases h : (l.length : Int) > 1048576
  · refine ⟨0, ?_⟩
    unfold laws_FnFrames.f laws_big.f
    rw [Option.bind_some, if_pos (by simp; omega)]
  · obtain ⟨p, hp, hpr, ep⟩ := places_ok l (by omega)
    obtain ⟨t, ht, et⟩ := drawhex_ok l (by omega)
    refine ⟨1000200001, ?_⟩
    unfold laws_FnFrames.f laws_big.f
    rw [Option.bind_some, if_neg (by simp; omega), ep _ (by omega), Option.bind_some, et _ (by omega), Option.bind_some, Option.bind_some, if_pos (by simp)]
    rw [show rdOf ByteArray.empty [t, (⟨#[116, 119, 111]⟩ : ByteArray), (⟨#[116, 104, 114, 101, 101, 32, 97, 110, 100, 32, 109, 111, 114, 101]⟩ : ByteArray)] 0 = t from rfl]
    have two : (⟨#[116, 119, 111]⟩ : ByteArray).size = 3 := rfl
    have three : (⟨#[116, 104, 114, 101, 101, 32, 97, 110, 100, 32, 109, 111, 114, 101]⟩ : ByteArray).size = 14 := rfl
    have one : (⟨#[111, 110, 101]⟩ : ByteArray).size = 3 := rfl
    by_cases c : (t.size : Int) = 0 ∨ (t.size : Int) > 900
    · have e : (if (t.size : Int) = 0 then laws_FnFrames.j0 1000200001 p [t, (⟨#[116, 119, 111]⟩ : ByteArray), (⟨#[116, 104, 114, 101, 101, 32, 97, 110, 100, 32, 109, 111, 114, 101]⟩ : ByteArray)] true else laws_FnFrames.j0 1000200001 p [t, (⟨#[116, 119, 111]⟩ : ByteArray), (⟨#[116, 104, 114, 101, 101, 32, 97, 110, 100, 32, 109, 111, 114, 101]⟩ : ByteArray)] (decide ((t.size : Int) > 900))) = laws_FnFrames.j0 1000200001 p [t, (⟨#[116, 119, 111]⟩ : ByteArray), (⟨#[116, 104, 114, 101, 101, 32, 97, 110, 100, 32, 109, 111, 114, 101]⟩ : ByteArray)] true := by
        split
        · rfl
        · rw [show decide ((t.size : Int) > 900) = true by simp; omega]
      rw [e]
      simp only [laws_FnFrames.j0, if_true]
      rw [if_pos (by simp)]
      exact frames_end _ _ _ (by rw [one]; omega) (by rw [two]; omega) (by rw [three]; omega) p hp hpr _ (by omega)
    · rw [if_neg (by omega), show decide ((t.size : Int) > 900) = false by simp; omega]
      simp only [laws_FnFrames.j0, Bool.false_eq_true, if_false]
      exact frames_end _ _ _ (by omega) (by rw [two]; omega) (by rw [three]; omega) p hp hpr _ (by omega)

end Go.Proofs.Ytkfggpcljndnoaa.Pure
