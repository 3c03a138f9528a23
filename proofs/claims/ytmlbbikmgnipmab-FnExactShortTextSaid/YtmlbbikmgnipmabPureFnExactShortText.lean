/- Of every text the program's ShortText and the reference's give the same text and the same flag. No condition but the form's own bound on a text's size. -/
import Derived.Test.YtmlbbikmgnipmabPFnExactShortTextx1
set_option linter.unusedVariables false
set_option linter.unusedSimpArgs false
namespace Go.Proofs.Ytmlbbikmgnipmab.Pure
open Go.RowKit Go.Proofs.Ytmlbbikmgnipmab.PFnExactShortText Go.Proofs.YtmlbbikmgnipmabW.PrintWords Go.Proofs.YtmlbbikmgnipmabW.PrintLast Go.Proofs.YtmlbbikmgnipmabW.PrintMore

-- snippet plain
/-! bytes as numbers -/
def bl (s : ByteArray) : List Int := s.data.toList.map fun b => (b.toNat : Int)
theorem bl_len (s : ByteArray) : (bl s).length = s.size := by unfold bl; rw [List.length_map, Array.length_toList]; rfl
theorem map_u8_inj : ∀ {a b : List UInt8}, a.map (fun b => (b.toNat : Int)) = b.map (fun b => (b.toNat : Int)) → a = b
  | [], [], _ => rfl
  | [], _ :: _, h => by simp at h
  | _ :: _, [], h => by simp at h
  | x :: a, y :: b, h => by
    simp only [List.map_cons, List.cons.injEq] at h
    have e : x = y := UInt8.toNat_inj.mp (by omega)
    rw [e, map_u8_inj h.2]
theorem bl_inj {s t : ByteArray} (h : bl s = bl t) : s = t := by
  have := map_u8_inj h
  cases s; cases t
  simp only [ByteArray.mk.injEq] at *
  exact Array.toList_inj.mp this
theorem bl_eq {s t : ByteArray} : s = t ↔ bl s = bl t := ⟨fun h => by rw [h], bl_inj⟩
theorem toList_bl {s t : ByteArray} : s.toList = t.toList ↔ bl s = bl t := by
  rw [ByteArray.toList_eq, ByteArray.toList_eq]
  exact ⟨fun h => by unfold bl; rw [h], fun h => by rw [bl_inj h]⟩
theorem bl_range (s : ByteArray) : ∀ x ∈ bl s, 0 ≤ x ∧ x < 256 := by
  intro x hx
  simp only [bl, List.mem_map] at hx
  obtain ⟨b, _, rfl⟩ := hx
  have := b.toNat_lt
  omega
theorem bt_bl (s : ByteArray) (i : Int) : bt s i = (bl s).getD i.toNat 0 := by
  unfold bt bl
  split
  · rename_i h
    have h' : i.toNat < s.data.toList.length := by rw [Array.length_toList]; exact h
    rw [List.getD_eq_getElem?_getD, List.getElem?_map, List.getElem?_eq_getElem h']
    rfl
  · rename_i h
    have h' : s.data.toList.length ≤ i.toNat := by rw [Array.length_toList]; exact Nat.le_of_not_lt h
    rw [List.getD_eq_getElem?_getD, List.getElem?_map, List.getElem?_eq_none h']
    rfl
theorem bl_append (s t : ByteArray) : bl (s ++ t) = bl s ++ bl t := by simp [bl]
theorem bl_extract (s : ByteArray) (a b : Nat) : bl (s.extract a b) = ((bl s).drop a).take (b - a) := by
  simp [bl, List.map_take, List.map_drop]
theorem u8_ofNat (n : Int) (h : 0 ≤ n ∧ n < 256) : ((UInt8.ofNat n.toNat).toNat : Int) = n := by
  rw [UInt8.toNat_ofNat']
  omega
theorem bl_str (xs : List Int) (h : ∀ x ∈ xs, 0 ≤ x ∧ x < 256) : bl (strOfNums xs) = xs := by
  unfold bl
  rw [strOfNums_data, List.map_map]
  conv => rhs; rw [← List.map_id xs]
  exact List.map_congr_left fun x hx => u8_ofNat x (h x hx)
theorem str_bl (s : ByteArray) : strOfNums (bl s) = s := bl_inj (bl_str _ (bl_range s))
theorem str_size (xs : List Int) : (strOfNums xs).size = xs.length := strOfNums_size xs
theorem bl_nil : bl (⟨#[]⟩ : ByteArray) = [] := rfl
theorem bt_lo (s : ByteArray) (i : Int) : 0 ≤ bt s i := (bt_range s i).1
theorem bt_hi (s : ByteArray) (i : Int) : bt s i < 256 := by have := (bt_range s i).2; omega
theorem wr (n : Int) (h : -9223372036854775808 ≤ n) (h' : n ≤ 9223372036854775807) : wrap64 n = n := by unfold wrap64; omega
theorem tdiv_pos (a b : Int) (h : 0 ≤ a) : Int.tdiv a b = a / b := Int.tdiv_eq_ediv_of_nonneg h
theorem tmod_pos (a b : Int) (h : 0 ≤ a) : Int.tmod a b = a % b := Int.tmod_eq_emod_of_nonneg h
theorem succ_of {k d : Nat} (h : d < k) : ∃ m, k = m + 1 := ⟨k - 1, by omega⟩
theorem drop_bt (s : ByteArray) (i : Nat) (h : i < s.size) : (bl s).drop i = bt s i :: (bl s).drop (i + 1) := by
  have h' : i < (bl s).length := by rw [bl_len]; exact h
  rw [List.drop_eq_getElem_cons h', bt_bl, Int.toNat_natCast, List.getD_eq_getElem?_getD, List.getElem?_eq_getElem h']
  rfl
theorem drop_end (s : ByteArray) (i : Nat) (h : s.size ≤ i) : (bl s).drop i = [] := List.drop_eq_nil_of_le (by rw [bl_len]; exact h)
theorem take_snoc_cons {α : Type} (p : List α) (b : α) (l : List α) : (p ++ b :: l).take (p.length + 1) = p ++ [b] := by
  rw [List.take_length_add_append]; simp

-- snippet var
/-! VarText -/
def varL (n : Nat) : List Int := if 127 < n then ((n % 128 + 128 : Nat) : Int) :: varL (n / 128) else [(n : Int)]
termination_by n
decreasing_by omega
theorem spec_var : ∀ (d k n : Nat) (xs : List Int), n < d → d ≤ k → n < 4611686018427387904 → xs.length + d < 140737488355328 → spec_l01Var.l0 k n xs = some (strOfNums (xs ++ varL n)) := by
  intro d
  induction d with
  | zero => intro k n xs h; omega
  | succ d ih =>
    intro k n xs h hk hn hl
    obtain ⟨k, rfl⟩ := succ_of hk
    simp only [spec_l01Var.l0]
    by_cases c : 127 < n
    · rw [if_pos (by omega), if_pos (by omega)]
      have e1 : wrap64 (Int.tdiv (n : Int) 128) = ((n / 128 : Nat) : Int) := by rw [tdiv_pos _ _ (by omega), wr _ (by omega) (by omega)]; omega
      have e2 : (wrap64 (Int.tmod (n : Int) 128 + 128)) % 256 = ((n % 128 + 128 : Nat) : Int) := by rw [tmod_pos _ _ (by omega), wr _ (by omega) (by omega)]; omega
      rw [e1, e2, ih k (n / 128) _ (by omega) (by omega) (by omega) (by simp; omega)]
      conv => rhs; rw [varL, if_pos c]
      simp
    · rw [if_neg (by omega), if_pos (by omega), varL, if_neg c]
      have : (n : Int) % 256 = n := by omega
      rw [this]
theorem spec_var_f (k : Nat) (n : Int) (h0 : 0 ≤ n) (h1 : n ≤ 1000000000) (hk : 1000000001 ≤ k) : spec_l01Var.f k n = some (strOfNums (varL n.toNat)) := by
  have := spec_var 1000000001 k n.toNat [] (by omega) hk (by omega) (by simp)
  rw [Int.toNat_of_nonneg h0] at this
  unfold spec_l01Var.f
  rw [this, List.nil_append]
theorem varL_range : ∀ (d n : Nat), n < d → ∀ x ∈ varL n, 0 ≤ x ∧ x < 256 := by
  intro d
  induction d with
  | zero => intro n h; omega
  | succ d ih =>
    intro n h x hx
    rw [varL] at hx
    split at hx
    · rcases List.mem_cons.mp hx with rfl | hx
      · omega
      · exact ih _ (by omega) x hx
    · rw [List.mem_singleton] at hx
      omega
theorem bl_var (n : Nat) : bl (strOfNums (varL n)) = varL n := bl_str _ (varL_range (n + 1) n (by omega))
theorem varL_len : ∀ (d n : Nat), n < d → 1 ≤ (varL n).length ∧ (varL n).length ≤ n + 1 := by
  intro d
  induction d with
  | zero => intro n h; omega
  | succ d ih =>
    intro n h
    rw [varL]
    split
    · have := ih (n / 128) (by omega)
      simp only [List.length_cons]
      omega
    · simp

-- snippet varimpl
theorem var_eq : ∀ (k : Nat) (x : Int) (xs : List Int), impl_varText.l0 k x xs = spec_l01Var.l0 k x xs
  | 0, _, _ => rfl
  | k + 1, x, xs => by simp only [impl_varText.l0, spec_l01Var.l0, var_eq k, Int.add_comm (Int.tmod x 128) 128]
theorem impl_var_f (k : Nat) (n : Int) (h0 : 0 ≤ n) (h1 : n ≤ 1000000000) (hk : 1000000001 ≤ k) : impl_varText.f k n = some (strOfNums (varL n.toNat)) := by
  unfold impl_varText.f
  rw [var_eq]
  exact spec_var_f k n h0 h1 hk

theorem FnExactShortText : laws_FnExactShortText.Pure := by
  intro s hs
  refine ⟨1000000001, ?_⟩
  unfold laws_FnExactShortText.f spec_ShortText.f impl_ShortText.f impl_shortText.f
  by_cases h : (s.size : Int) > 1048576
  · rw [if_pos h]
  · rw [if_neg h]
    by_cases h2 : (s.size : Int) > 20000
    · rw [if_pos h2, if_pos h2]; simp
    · rw [if_neg h2, if_neg h2, spec_var_f _ _ (by omega) (by omega) (Nat.le_refl _), impl_var_f _ _ (by omega) (by omega) (Nat.le_refl _)]
      simp only [Option.bind_some]
      have g : (strOfNums (varL (s.size : Int).toNat)).size + s.size ≤ 9223372036854775807 := by have := varL_len _ (s.size) (Nat.lt_succ_self _); simp only [str_size, Int.toNat_natCast]; omega
      rw [if_pos g, if_pos g]
      simp

end Go.Proofs.Ytmlbbikmgnipmab.Pure
