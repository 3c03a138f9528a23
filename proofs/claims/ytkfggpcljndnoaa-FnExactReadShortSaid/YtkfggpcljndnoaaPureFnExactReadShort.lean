/- Of every text and place the program's ReadShort and the reference's give the same text, place and flag. No condition but the form's own bound on a text's size. -/
import Derived.Test.YtkfggpcljndnoaaPFnExactReadShortx2
set_option linter.unusedVariables false
set_option linter.unusedSimpArgs false
namespace Go.Proofs.Ytkfggpcljndnoaa.Pure
open Go.RowKit Go.Proofs.Ytkfggpcljndnoaa.PFnExactReadShort Go.Proofs.YtkfggpcljndnoaaW.PrintWords Go.Proofs.YtkfggpcljndnoaaW.PrintLast Go.Proofs.YtkfggpcljndnoaaW.PrintMore

-- snippet plain
/-! bytes as numbers -/
def bl (s : ByteArray) : List Int := s.data.toList.map fun b => (b.toNat : Int)
theorem bl_len (s : ByteArray) : (bl s).length = s.size := by unfold bl; rw [List.length_map, Array.length_toList]; rfl
theorem map_u8_inj : ∀ {a b : List UInt8}, a.map (fun b => (b.toNat : Int)) = b.map (fun b => (b.toNat : Int)) → a = b
  | [], [], _ => rfl
  | [], _ :: _, h => by simp at h
  | _ :: _, [], h => by simp at h
  | x :: a, y :: b, h => by
    simp only [List.map_cons, List.cons.injEq] at h
    have e : x = y := UInt8.toNat_inj.mp (by omega)
    rw [e, map_u8_inj h.2]
theorem bl_inj {s t : ByteArray} (h : bl s = bl t) : s = t := by
  have := map_u8_inj h
  cases s; cases t
  simp only [ByteArray.mk.injEq] at *
  exact Array.toList_inj.mp this
theorem bl_eq {s t : ByteArray} : s = t ↔ bl s = bl t := ⟨fun h => by rw [h], bl_inj⟩
theorem toList_bl {s t : ByteArray} : s.toList = t.toList ↔ bl s = bl t := by
  rw [ByteArray.toList_eq, ByteArray.toList_eq]
  exact ⟨fun h => by unfold bl; rw [h], fun h => by rw [bl_inj h]⟩
theorem bl_range (s : ByteArray) : ∀ x ∈ bl s, 0 ≤ x ∧ x < 256 := by
  intro x hx
  simp only [bl, List.mem_map] at hx
  obtain ⟨b, _, rfl⟩ := hx
  have := b.toNat_lt
  omega
theorem bt_bl (s : ByteArray) (i : Int) : bt s i = (bl s).getD i.toNat 0 := by
  unfold bt bl
  split
  · rename_i h
    have h' : i.toNat < s.data.toList.length := by rw [Array.length_toList]; exact h
    rw [List.getD_eq_getElem?_getD, List.getElem?_map, List.getElem?_eq_getElem h']
    rfl
  · rename_i h
    have h' : s.data.toList.length ≤ i.toNat := by rw [Array.length_toList]; exact Nat.le_of_not_lt h
    rw [List.getD_eq_getElem?_getD, List.getElem?_map, List.getElem?_eq_none h']
    rfl
theorem bl_append (s t : ByteArray) : bl (s ++ t) = bl s ++ bl t := by simp [bl]
theorem bl_extract (s : ByteArray) (a b : Nat) : bl (s.extract a b) = ((bl s).drop a).take (b - a) := by
  simp [bl, List.map_take, List.map_drop]
theorem u8_ofNat (n : Int) (h : 0 ≤ n ∧ n < 256) : ((UInt8.ofNat n.toNat).toNat : Int) = n := by
  rw [UInt8.toNat_ofNat']
  omega
theorem bl_str (xs : List Int) (h : ∀ x ∈ xs, 0 ≤ x ∧ x < 256) : bl (strOfNums xs) = xs := by
  unfold bl
  rw [strOfNums_data, List.map_map]
  conv => rhs; rw [← List.map_id xs]
  exact List.map_congr_left fun x hx => u8_ofNat x (h x hx)
theorem str_bl (s : ByteArray) : strOfNums (bl s) = s := bl_inj (bl_str _ (bl_range s))
theorem str_size (xs : List Int) : (strOfNums xs).size = xs.length := strOfNums_size xs
theorem bl_nil : bl (⟨#[]⟩ : ByteArray) = [] := rfl
theorem bt_lo (s : ByteArray) (i : Int) : 0 ≤ bt s i := (bt_range s i).1
theorem bt_hi (s : ByteArray) (i : Int) : bt s i < 256 := by have := (bt_range s i).2; omega
theorem wr (n : Int) (h : -9223372036854775808 ≤ n) (h' : n ≤ 9223372036854775807) : wrap64 n = n := by unfold wrap64; omega
theorem tdiv_pos (a b : Int) (h : 0 ≤ a) : Int.tdiv a b = a / b := Int.tdiv_eq_ediv_of_nonneg h
theorem tmod_pos (a b : Int) (h : 0 ≤ a) : Int.tmod a b = a % b := Int.tmod_eq_emod_of_nonneg h
theorem succ_of {k d : Nat} (h : d < k) : ∃ m, k = m + 1 := ⟨k - 1, by omega⟩
theorem drop_bt (s : ByteArray) (i : Nat) (h : i < s.size) : (bl s).drop i = bt s i :: (bl s).drop (i + 1) := by
  have h' : i < (bl s).length := by rw [bl_len]; exact h
  rw [List.drop_eq_getElem_cons h', bt_bl, Int.toNat_natCast, List.getD_eq_getElem?_getD, List.getElem?_eq_getElem h']
  rfl
theorem drop_end (s : ByteArray) (i : Nat) (h : s.size ≤ i) : (bl s).drop i = [] := List.drop_eq_nil_of_le (by rw [bl_len]; exact h)
theorem take_snoc_cons {α : Type} (p : List α) (b : α) (l : List α) : (p ++ b :: l).take (p.length + 1) = p ++ [b] := by
  rw [List.take_length_add_append]; simp
attribute [local irreducible] bt

-- snippet var
/-! VarText -/
def varL (n : Nat) : List Int := if 127 < n then ((n % 128 + 128 : Nat) : Int) :: varL (n / 128) else [(n : Int)]
termination_by n
decreasing_by omega
theorem spec_var : ∀ (d k n : Nat) (xs : List Int), n < d → d ≤ k → n < 4611686018427387904 → xs.length + d < 140737488355328 → spec_l01Var.l0 k n xs = some (strOfNums (xs ++ varL n)) := by
  intro d
  induction d with
  | zero => intro k n xs h; omega
  | succ d ih =>
    intro k n xs h hk hn hl
    obtain ⟨k, rfl⟩ := succ_of hk
    simp only [spec_l01Var.l0]
    by_cases c : 127 < n
    · rw [if_pos (by omega), if_pos (by omega)]
      have e1 : wrap64 (Int.tdiv (n : Int) 128) = ((n / 128 : Nat) : Int) := by rw [tdiv_pos _ _ (by omega), wr _ (by omega) (by omega)]; omega
      have e2 : (wrap64 (Int.tmod (n : Int) 128 + 128)) % 256 = ((n % 128 + 128 : Nat) : Int) := by rw [tmod_pos _ _ (by omega), wr _ (by omega) (by omega)]; omega
      rw [e1, e2, ih k (n / 128) _ (by omega) (by omega) (by omega) (by simp; omega)]
      conv => rhs; rw [varL, if_pos c]
      simp
    · rw [if_neg (by omega), if_pos (by omega), varL, if_neg c]
      have : (n : Int) % 256 = n := by omega
      rw [this]
theorem spec_var_f (k : Nat) (n : Int) (h0 : 0 ≤ n) (h1 : n ≤ 1000000000) (hk : 1000000001 ≤ k) : spec_l01Var.f k n = some (strOfNums (varL n.toNat)) := by
  have := spec_var 1000000001 k n.toNat [] (by omega) hk (by omega) (by simp)
  rw [Int.toNat_of_nonneg h0] at this
  unfold spec_l01Var.f
  rw [this, List.nil_append]
theorem varL_range : ∀ (d n : Nat), n < d → ∀ x ∈ varL n, 0 ≤ x ∧ x < 256 := by
  intro d
  induction d with
  | zero => intro n h; omega
  | succ d ih =>
    intro n h x hx
    rw [varL] at hx
    split at hx
    · rcases List.mem_cons.mp hx with rfl | hx
      · omega
      · exact ih _ (by omega) x hx
    · rw [List.mem_singleton] at hx
      omega
theorem bl_var (n : Nat) : bl (strOfNums (varL n)) = varL n := bl_str _ (varL_range (n + 1) n (by omega))
theorem varL_len : ∀ (d n : Nat), n < d → 1 ≤ (varL n).length ∧ (varL n).length ≤ n + 1 := by
  intro d
  induction d with
  | zero => intro n h; omega
  | succ d ih =>
    intro n h
    rw [varL]
    split
    · have := ih (n / 128) (by omega)
      simp only [List.length_cons]
      omega
    · simp

-- snippet readvar
/-! ReadVar -/
def pw : Nat → Int
  | 0 => 1
  | k + 1 => pw k * 128
def rv : Nat → Nat → Int → Int → List Int → Option (Int × Nat)
  | 0, _, _, _, _ => none
  | _ + 1, _, _, _, [] => none
  | r + 1, k, n, m, b :: l => if b < 128 then (if (b = 0 ∧ 0 < k) ∨ n + b % 128 * m > 1000000000 then none else some (n + b % 128 * m, k + 1)) else rv r (k + 1) (n + b % 128 * m) (m * 128) l
def rvOut (a : Nat) : Option (Int × Nat) → Int × Int × Bool
  | none => (0, 0, false)
  | some x => (x.1, ((a + x.2 : Nat) : Int), true)
theorem pw_succ (k : Nat) : pw (k + 1) = pw k * 128 := by simp only [pw]
theorem pw_vals : pw 0 = 1 ∧ pw 1 = 128 ∧ pw 2 = 16384 ∧ pw 3 = 2097152 ∧ pw 4 = 268435456 ∧ pw 5 = 34359738368 := by decide
attribute [local irreducible] pw
theorem five {k : Nat} (h : k < 5) : k = 0 ∨ k = 1 ∨ k = 2 ∨ k = 3 ∨ k = 4 := by omega
theorem step_range (k : Nat) (hk : k < 5) (n b : Int) (h0 : 0 ≤ n) (h1 : n < pw k) (hb0 : 0 ≤ b) (hb : b < 256) : 0 ≤ b % 128 * pw k ∧ b % 128 * pw k < 34359738368 ∧ 0 ≤ n + b % 128 * pw k ∧ n + b % 128 * pw k < pw (k + 1) ∧ pw (k + 1) ≤ 34359738368 ∧ 0 < pw k := by
  obtain ⟨p0, p1, p2, p3, p4, p5⟩ := pw_vals
  rcases five hk with rfl | rfl | rfl | rfl | rfl <;> simp only [p0, p1, p2, p3, p4, p5] at * <;> omega
theorem shl7 (k : Nat) (hk : k < 5) (x : Int) (h0 : 0 ≤ x) (h1 : x < 128) : shl .i64 x (wrap64 (7 * (k : Int))) = x * pw k := by
  obtain ⟨p0, p1, p2, p3, p4, p5⟩ := pw_vals
  have e : wrap64 (7 * (k : Int)) = ((7 * k : Nat) : Int) := by rw [wr _ (by omega) (by omega)]; omega
  rw [e]
  unfold shl
  rw [IntKind.wrap_i64, Int.toNat_natCast]
  rcases five hk with rfl | rfl | rfl | rfl | rfl
  · rw [p0, show min (7 * 0) IntKind.i64.bits = 0 from rfl]; omega
  · rw [p1, show min (7 * 1) IntKind.i64.bits = 7 from rfl]; omega
  · rw [p2, show min (7 * 2) IntKind.i64.bits = 14 from rfl]; omega
  · rw [p3, show min (7 * 3) IntKind.i64.bits = 21 from rfl]; omega
  · rw [p4, show min (7 * 4) IntKind.i64.bits = 28 from rfl]; omega
theorem impl_rv (s : ByteArray) (a : Nat) (hs : s.size < 140737488355328) : ∀ (r k K : Nat) (n : Int), r + k = 5 → 2 * r + 2 ≤ K → a + k ≤ s.size ∨ r = 0 → 0 ≤ n → n < pw k → a ≤ s.size →
    impl_ReadVar.l0 K s a n k = some (rvOut a (rv r k n (pw k) ((bl s).drop (a + k)))) := by
  intro r
  induction r with
  | zero =>
    intro k K n h hK _ h0 h1 ha
    obtain ⟨K, rfl⟩ : ∃ m, K = m + 2 := ⟨K - 2, by omega⟩
    simp only [impl_ReadVar.l0, impl_ReadVar.j1]
    rw [if_neg (by omega), if_neg (by simp)]
    simp [rv, rvOut]
  | succ r ih =>
    intro k K n h hK hak h0 h1 ha
    have hak : a + k ≤ s.size := by omega
    obtain ⟨K, rfl⟩ : ∃ m, K = m + 2 := ⟨K - 2, by omega⟩
    have q1 : r + (k + 1) = 5 := by omega
    have q2 : 2 * r + 2 ≤ K := by omega
    have e1 : wrap64 ((a : Int) + (k : Int)) = ((a + k : Nat) : Int) := by rw [wr _ (by omega) (by omega)]; omega
    have e2 : wrap64 (7 * (k : Int)) = ((7 * k : Nat) : Int) := by rw [wr _ (by omega) (by omega)]; omega
    simp only [impl_ReadVar.l0, impl_ReadVar.j1]
    rw [if_pos (by omega), e1]
    by_cases c : a + k < s.size
    · have lo := bt_lo s ((a + k : Nat) : Int)
      have hi := bt_hi s ((a + k : Nat) : Int)
      rw [drop_bt s (a + k) c]
      have e4 : shl .i64 (Int.tmod (bt s ((a + k : Nat) : Int)) 128) (wrap64 (7 * (k : Int))) = bt s ((a + k : Nat) : Int) % 128 * pw k := by
        rw [tmod_pos _ _ lo]
        exact shl7 k (by omega) _ (by omega) (by omega)
      obtain ⟨g0, g1, g2, g3, g4, g5⟩ := step_range k (by omega) n _ h0 h1 lo hi
      rw [if_pos (by simp; omega), if_pos (by omega), if_pos (by omega), if_pos (by rw [e2]; omega), wr (bt s ((a + k : Nat) : Int)) (by omega) (by omega), e4, wr _ (by omega) (by omega)]
      simp only [rv]
      generalize hM : bt s ((a + k : Nat) : Int) % 128 * pw k = M at *
      generalize bt s ((a + k : Nat) : Int) = b at *
      generalize n + M = V at *
      by_cases d : b < 128
      · clear hM e4 g0 g1 g2 g3 g4 g5 lo hi h0 h1 ih e2
        rw [if_pos d, if_pos d]
        have e3 : wrap64 (((a + k : Nat) : Int) + 1) = ((a + (k + 1) : Nat) : Int) := by rw [wr _ (by omega) (by omega)]; omega
        rw [e3]
        by_cases z : b = 0
        · rw [if_pos z]
          by_cases z2 : 0 < k
          · rw [if_pos (show (k : Int) > 0 by omega), if_pos (Or.inl ⟨z, z2⟩)]; simp only [rvOut]
          · rw [if_neg (show ¬ (k : Int) > 0 by omega)]
            by_cases g : V > 1000000000
            · rw [if_pos g, if_pos (Or.inr g)]; simp only [rvOut]
            · rw [if_neg g, if_neg (fun q => q.elim (fun q => z2 q.2) g)]; simp only [rvOut]
        · rw [if_neg z]
          by_cases g : V > 1000000000
          · rw [if_pos g, if_pos (Or.inr g)]; simp only [rvOut]
          · rw [if_neg g, if_neg (fun q => q.elim (fun q => z q.1) g)]; simp only [rvOut]
      · clear hM e4 g0 g1 g4 g5 e2
        rw [if_neg d, if_neg d]
        have e3 : wrap64 ((k : Int) + 1) = ((k + 1 : Nat) : Int) := by rw [wr _ (by omega) (by omega)]; omega
        rw [e3, ih (k + 1) K _ q1 q2 (Or.inl c) g2 g3 ha, ← Nat.add_assoc]
        rw [pw_succ]
    · rw [if_neg (by simp; omega), drop_end s (a + k) (by omega)]
      simp [rv, rvOut]
theorem impl_ReadVar_f (K : Nat) (s : ByteArray) (a : Int) (hs : s.size < 140737488355328) (h0 : 0 ≤ a) (h1 : a ≤ s.size) (hK : 12 ≤ K) : impl_ReadVar.f K s a = some (rvOut a.toNat (rv 5 0 0 1 ((bl s).drop a.toNat))) := by
  obtain ⟨a, rfl⟩ := Int.eq_ofNat_of_zero_le h0
  have := impl_rv s a hs 5 0 K 0 (by omega) (by omega) (by omega) (by omega) (by rw [pw_vals.1]; decide) (by omega)
  unfold impl_ReadVar.f impl_in.f
  rw [if_pos (by omega)]
  simp only [Option.bind_some]
  rw [if_pos (by simp; omega)]
  simpa [pw_vals.1] using this
theorem impl_ReadVar_bad (K : Nat) (s : ByteArray) (a : Int) (h : a < 0 ∨ (s.size : Int) < a) : impl_ReadVar.f K s a = some (0, 0, false) := by
  unfold impl_ReadVar.f impl_in.f
  split
  · simp only [Option.bind_some]; rw [if_neg (by simp; omega)]
  · simp only [Option.bind_some]; rw [if_neg (by simp)]
/-! what is read is what was written -/
def val : List Int → Int
  | [] => 0
  | b :: l => b % 128 + 128 * val l
theorem val_nonneg : ∀ l : List Int, 0 ≤ val l
  | [] => by simp [val]
  | b :: l => by have := val_nonneg l; simp only [val]; omega
theorem val_pos : ∀ (p : List Int) (b : Int), 0 < b → b < 128 → 0 < val (p ++ [b])
  | [], b, h, h1 => by simp only [List.nil_append, val]; omega
  | x :: p, b, h, h1 => by have := val_pos p b h h1; simp only [List.cons_append, val]; omega
theorem val_snoc : ∀ (p : List Int) (b : Int), val (p ++ [b]) = val p + b % 128 * pw p.length
  | [], b => by simp [val, pw_vals.1]
  | x :: p, b => by
    have := val_snoc p b
    simp only [List.cons_append, val, this, List.length_cons, pw_succ]
    rw [Int.mul_add, Int.mul_comm 128 (b % 128 * pw p.length), Int.mul_assoc]
    omega
theorem varL_val : ∀ (p : List Int) (b : Int), (∀ x ∈ p, 128 ≤ x ∧ x < 256) → 0 ≤ b → b < 128 → (p = [] ∨ b ≠ 0) → varL (val (p ++ [b])).toNat = p ++ [b]
  | [], b, _, h0, h1, _ => by
    simp only [List.nil_append, val]
    rw [varL, if_neg (by omega)]
    congr 1; omega
  | x :: p, b, hp, h0, h1, hb => by
    have hb : b ≠ 0 := by rcases hb with h | h; · cases h
                          · exact h
    have v := val_pos p b (by omega) h1
    have hx := hp x (by simp)
    have ih := varL_val p b (fun y hy => hp y (by simp [hy])) h0 h1 (Or.inr hb)
    simp only [List.cons_append, val]
    rw [varL, if_pos (by omega)]
    have e1 : (x % 128 + 128 * val (p ++ [b])).toNat / 128 = (val (p ++ [b])).toNat := by omega
    rw [e1, ih]
    congr 1; omega
theorem varL_no0 : ∀ (d n : Nat) (p : List Int), n < d → varL n = p ++ [0] → n = 0 ∧ p = [] := by
  intro d
  induction d with
  | zero => intro n p h; omega
  | succ d ih =>
    intro n p h e
    rw [varL] at e
    split at e
    · cases p with
      | nil =>
        have := (varL_len _ (n / 128) (Nat.lt_succ_self _)).1
        simp only [List.nil_append, List.cons.injEq] at e
        rw [e.2] at this
        simp at this
      | cons x p =>
        simp only [List.cons_append, List.cons.injEq] at e
        have := (ih (n / 128) p (by omega) e.2).1
        omega
    · cases p with
      | nil => simp at e; exact ⟨by omega, rfl⟩
      | cons x p => simp at e
theorem rv_bounds : ∀ (r k : Nat) (n m : Int) (l : List Int), 0 ≤ n → 0 ≤ m → (∀ x ∈ l, 0 ≤ x ∧ x < 256) → ∀ q j, rv r k n m l = some (q, j) → 0 ≤ q ∧ q ≤ 1000000000 ∧ k < j ∧ j ≤ k + r ∧ j ≤ k + l.length
  | 0, _, _, _, _, _, _, _, _, _, h => by simp [rv] at h
  | r + 1, k, n, m, [], _, _, _, _, _, h => by simp [rv] at h
  | r + 1, k, n, m, b :: l, hn, hm, hl, q, j, h => by
    have hb := hl b (by simp)
    have p : 0 ≤ b % 128 * m := Int.mul_nonneg (by omega) hm
    simp only [rv] at h
    by_cases c : b < 128
    · rw [if_pos c] at h
      by_cases z : (b = 0 ∧ 0 < k) ∨ n + b % 128 * m > 1000000000
      · rw [if_pos z] at h; cases h
      · rw [if_neg z] at h
        simp only [Option.some.injEq, Prod.mk.injEq] at h
        obtain ⟨rfl, rfl⟩ := h
        have z2 : ¬ n + b % 128 * m > 1000000000 := fun g => z (Or.inr g)
        refine ⟨Int.add_nonneg hn p, Int.not_lt.mp z2, by omega, by omega, by simp only [List.length_cons]; omega⟩
    · rw [if_neg c] at h
      have := rv_bounds r (k + 1) _ _ l (Int.add_nonneg hn p) (Int.mul_nonneg hm (by decide)) (fun x hx => hl x (by simp [hx])) q j h
      simp only [List.length_cons]
      refine ⟨this.1, this.2.1, ?_, ?_, ?_⟩ <;> omega

-- snippet readvar_spec
theorem spec_rv (s : ByteArray) (a : Nat) (hs : s.size < 140737488355328) : ∀ (r k K : Nat) (p : List Int), r + k = 5 → 1000000001 + 2 * r + 2 ≤ K → a + k ≤ s.size ∨ r = 0 → a ≤ s.size → p.length = k → (∀ x ∈ p, 128 ≤ x ∧ x < 256) → (a + k ≤ s.size → (bl s).drop a = p ++ (bl s).drop (a + k)) → val p < pw k →
    spec_ReadVar.l0 K s a (val p) (pw k) ((a + k : Nat) : Int) = some (rvOut a (rv r k (val p) (pw k) ((bl s).drop (a + k)))) := by
  intro r
  induction r with
  | zero =>
    intro k K p h hK _ ha hp hpx hd hv
    obtain ⟨K, rfl⟩ : ∃ m, K = m + 2 := ⟨K - 2, by omega⟩
    have e0 : wrap64 ((a : Int) + 5) = ((a + 5 : Nat) : Int) := by rw [wr _ (by omega) (by omega)]; omega
    simp only [spec_ReadVar.l0, spec_ReadVar.j1]
    rw [e0]
    have e1 : decide (((a + k : Nat) : Int) < ((a + 5 : Nat) : Int)) = false := by simp; omega
    rw [e1]
    simp [rv, rvOut]
  | succ r ih =>
    intro k K p h hK hak ha hp hpx hd hv
    have hak : a + k ≤ s.size := by omega
    have hd := hd hak
    have q1 : r + (k + 1) = 5 := by omega
    have q2 : 1000000001 + 2 * r + 2 ≤ K - 2 := by omega
    have h0 := val_nonneg p
    obtain ⟨K, rfl⟩ : ∃ m, K = m + 2 := ⟨K - 2, by omega⟩
    have e0 : wrap64 ((a : Int) + 5) = ((a + 5 : Nat) : Int) := by rw [wr _ (by omega) (by omega)]; omega
    simp only [spec_ReadVar.l0, spec_ReadVar.j1]
    rw [e0]
    by_cases c : a + k < s.size
    · have c1 : ((a + k : Nat) : Int) < (s.size : Int) := by omega
      have t1 : (a : Int) ≤ ((a + (k + 1) : Nat) : Int) := by omega
      have t2 : ((a + (k + 1) : Nat) : Int) ≤ (s.size : Int) := by omega
      have t4 : 1000000001 ≤ K := by omega
      have c0 : 0 ≤ ((a + k : Nat) : Int) := Int.natCast_nonneg _
      have lo := bt_lo s ((a + k : Nat) : Int)
      have hi := bt_hi s ((a + k : Nat) : Int)
      have db := drop_bt s (a + k) c
      have e1 : decide (((a + k : Nat) : Int) < ((a + 5 : Nat) : Int)) = true := by simp; omega
      obtain ⟨g0, g1, g2, g3, g4, g5⟩ := step_range k (by omega) (val p) _ h0 hv lo hi
      have vs := val_snoc p (bt s ((a + k : Nat) : Int))
      rw [hp] at vs
      have e3 : wrap64 (((a + k : Nat) : Int) + 1) = ((a + (k + 1) : Nat) : Int) := by rw [wr _ (by omega) (by omega)]; omega
      have w1 : wrap64 (bt s ((a + k : Nat) : Int)) = bt s ((a + k : Nat) : Int) := wr _ (by omega) (by omega)
      have w2 : wrap64 (bt s ((a + k : Nat) : Int) % 128 * pw k) = bt s ((a + k : Nat) : Int) % 128 * pw k := wr _ (by omega) (by omega)
      have w3 : wrap64 (val p + bt s ((a + k : Nat) : Int) % 128 * pw k) = val p + bt s ((a + k : Nat) : Int) % 128 * pw k := wr _ (by omega) (by omega)
      rw [if_pos c1, e1, if_pos rfl, if_pos c0, if_pos c1, w1, tmod_pos _ _ lo, w2, w3, e3, db]
      clear w1 w2 w3
      simp only [rv]
      have t5 : pw (k + 1) ≤ 9223372036854775807 := Int.le_trans g4 (by decide)
      have t6 : 0 ≤ pw (k + 1) := Int.le_trans g2 (Int.le_of_lt g3)
      have tk : bl (s.extract (a : Int).toNat ((a + (k + 1) : Nat) : Int).toNat) = p ++ [bt s ((a + k : Nat) : Int)] := by
        rw [bl_extract, Int.toNat_natCast, Int.toNat_natCast, hd, db, show a + (k + 1) - a = p.length + 1 by rw [hp]; exact Nat.add_sub_cancel_left .., take_snoc_cons]
      have pl : (p ++ [bt s ((a + k : Nat) : Int)]).length = k + 1 := by simp [hp]
      generalize bt s ((a + k : Nat) : Int) = b at *
      generalize hV : val p + b % 128 * pw k = V at *
      clear g0 g1 g4 g5 e0 e1 hs h hK hak
      by_cases d : b < 128
      · rw [if_pos d, if_pos d]
        by_cases g : V > 1000000000
        · rw [if_pos g, if_pos (Or.inr g)]; simp only [rvOut]
        · rw [if_neg g, spec_var_f _ _ g2 (Int.not_lt.mp g) t4]
          simp only [Option.bind_some]
          rw [if_pos (Int.natCast_nonneg a), if_pos t1, if_pos t2]
          by_cases z : b = 0 ∧ 0 < k
          · have ne : ¬ (strOfNums (varL V.toNat)).toList = (s.extract (a : Int).toNat ((a + (k + 1) : Nat) : Int).toNat).toList := by
              rw [toList_bl, bl_var, tk, z.1]
              intro e
              have := (varL_no0 _ _ _ (Nat.lt_succ_self _) e).2
              rw [this] at hp
              simp at hp
              exact absurd z.2 (by rw [← hp]; simp)
            rw [if_neg ne, if_pos (Or.inl z)]; simp only [rvOut]
          · have eq : (strOfNums (varL V.toNat)).toList = (s.extract (a : Int).toNat ((a + (k + 1) : Nat) : Int).toNat).toList := by
              rw [toList_bl, bl_var, tk, ← vs]
              refine varL_val p b hpx lo d ?_
              rcases Nat.eq_zero_or_pos k with k0 | k0
              · left; exact List.eq_nil_of_length_eq_zero (hp.trans k0)
              · right; intro z2; exact z ⟨z2, k0⟩
            rw [if_pos eq, if_neg (fun q => q.elim z g)]; simp only [rvOut]
      · rw [if_neg d, if_neg d, ← vs]
        have dl : (bl s).drop a = (p ++ [b]) ++ (bl s).drop (a + (k + 1)) := by
          rw [hd, db]
          simp [Nat.add_assoc]
        have := ih (k + 1) K (p ++ [b]) q1 (by rw [Nat.add_sub_cancel] at q2; exact q2) (Or.inl c) ha pl (by
          intro x hx
          rcases List.mem_append.mp hx with hx | hx
          · exact hpx x hx
          · rw [List.mem_singleton] at hx; rw [hx]; exact ⟨Int.not_lt.mp d, hi⟩) (fun _ => dl) (by rw [vs]; exact g3)
        rw [show wrap64 (pw k * 128) = pw (k + 1) from (wr _ (by rw [pw_succ] at t6; omega) (by rw [pw_succ] at t5; omega)).trans (pw_succ k).symm]
        rw [pw_succ k] at this
        rw [pw_succ k]
        rw [show a + (k + 1) = a + k + 1 from rfl] at this ⊢
        exact this
    · have e1 : ¬ ((a + k : Nat) : Int) < (s.size : Int) := by omega
      rw [if_neg e1, drop_end s (a + k) (by omega)]
      simp [rv, rvOut]
theorem spec_ReadVar_f (K : Nat) (s : ByteArray) (a : Int) (hs : s.size < 140737488355328) (h0 : 0 ≤ a) (h1 : a ≤ s.size) (hK : 1000000020 ≤ K) : spec_ReadVar.f K s a = some (rvOut a.toNat (rv 5 0 0 1 ((bl s).drop a.toNat))) := by
  obtain ⟨a, rfl⟩ := Int.eq_ofNat_of_zero_le h0
  have := spec_rv s a hs 5 0 K [] (by omega) (by omega) (by omega) (by omega) rfl (by simp) (by simp) (by rw [pw_vals.1]; decide)
  unfold spec_ReadVar.f spec_l01In.f
  rw [if_pos (by omega)]
  simp only [Option.bind_some]
  rw [if_pos (by simp; omega)]
  simpa [val, pw_vals.1] using this
theorem spec_ReadVar_bad (K : Nat) (s : ByteArray) (a : Int) (h : a < 0 ∨ (s.size : Int) < a) : spec_ReadVar.f K s a = some (0, 0, false) := by
  unfold spec_ReadVar.f spec_l01In.f
  split
  · simp only [Option.bind_some]; rw [if_neg (by simp; omega)]
  · simp only [Option.bind_some]; rw [if_neg (by simp)]
theorem ReadVar_all (K : Nat) (s : ByteArray) (a : Int) (hs : s.size < 140737488355328) (hK : 1000000020 ≤ K) : ∃ r, spec_ReadVar.f K s a = some r ∧ impl_ReadVar.f K s a = some r := by
  by_cases h : 0 ≤ a ∧ a ≤ s.size
  · exact ⟨_, spec_ReadVar_f K s a hs h.1 h.2 hK, impl_ReadVar_f K s a hs h.1 h.2 (by omega)⟩
  · exact ⟨_, spec_ReadVar_bad K s a (by omega), impl_ReadVar_bad K s a (by omega)⟩

theorem FnExactReadShort : laws_FnExactReadShort.Pure := by
  intro s a hs _
  refine ⟨1000000020, ?_⟩
  unfold laws_FnExactReadShort.f
  by_cases h : (s.size : Int) > 1048576
  · rw [if_pos h]
  · rw [if_neg h]
    obtain ⟨r, e1, e2⟩ := ReadVar_all 1000000020 s a (by omega) (Nat.le_refl _)
    have same : spec_ReadShort.f 1000000020 s a = impl_ReadShort.f 1000000020 s a := by unfold spec_ReadShort.f impl_ReadShort.f; rw [e1, e2]
    have ok : ∃ q, impl_ReadShort.f 1000000020 s a = some q := by
      have wf : r.2.2 = true → 0 ≤ r.1 ∧ r.1 ≤ 1000000000 ∧ 0 ≤ r.2.1 ∧ r.2.1 ≤ s.size := by
        intro hr
        by_cases g : 0 ≤ a ∧ a ≤ s.size
        · have e := impl_ReadVar_f 1000000020 s a (by omega) g.1 g.2 (by omega)
          rw [e2] at e
          have e := Option.some.inj e
          have w := rv_bounds 5 0 0 1 ((bl s).drop a.toNat) (by decide) (by decide) (fun x hx => bl_range s x (List.mem_of_mem_drop hx))
          cases hv : rv 5 0 0 1 ((bl s).drop a.toNat) with
          | none => rw [hv] at e; rw [e] at hr; simp [rvOut] at hr
          | some q =>
            obtain ⟨n, j⟩ := q
            have w := w n j hv
            rw [hv] at e
            rw [List.length_drop, bl_len] at w
            rw [e]
            simp only [rvOut]
            omega
        · have e := impl_ReadVar_bad 1000000020 s a (by omega)
          rw [e2] at e
          rw [Option.some.inj e] at hr
          simp at hr
      unfold impl_ReadShort.f
      rw [e2]
      simp only [Option.bind_some]
      by_cases hr : r.2.2 = true
      · obtain ⟨w1, w2, w3, w4⟩ := wf hr
        rw [if_pos hr]
        by_cases g1 : r.1 > 20000
        · rw [if_pos g1]; exact ⟨_, rfl⟩
        · rw [if_neg g1, wr ((s.size : Int) - r.2.1) (by omega) (by omega), wr (r.2.1 + r.1) (by omega) (by omega)]
          by_cases g2 : r.1 > (s.size : Int) - r.2.1
          · rw [if_pos g2]; exact ⟨_, rfl⟩
          · rw [if_neg g2, if_pos w3, if_pos (show r.2.1 ≤ r.2.1 + r.1 by omega), if_pos (show r.2.1 + r.1 ≤ (s.size : Int) by omega)]
            exact ⟨_, rfl⟩
      · rw [if_neg hr]; exact ⟨_, rfl⟩
    obtain ⟨q, hq⟩ := ok
    rw [same, hq]
    simp

end Go.Proofs.Ytkfggpcljndnoaa.Pure
