/- Of every text the program's Hex and the reference's give the same text and the same flag. No condition but the form's own bound on a text's size. -/
import Derived.Test.YtmlbbikmgnipmabPFnExactHexx1
set_option linter.unusedVariables false
set_option linter.unusedSimpArgs false
namespace Go.Proofs.Ytmlbbikmgnipmab.Pure
open Go.RowKit Go.Proofs.Ytmlbbikmgnipmab.PFnExactHex Go.Proofs.YtmlbbikmgnipmabW.PrintWords Go.Proofs.YtmlbbikmgnipmabW.PrintLast Go.Proofs.YtmlbbikmgnipmabW.PrintMore

-- snippet plain
/-! bytes as numbers -/
def bl (s : ByteArray) : List Int := s.data.toList.map fun b => (b.toNat : Int)
theorem bl_len (s : ByteArray) : (bl s).length = s.size := by unfold bl; rw [List.length_map, Array.length_toList]; rfl
theorem map_u8_inj : ∀ {a b : List UInt8}, a.map (fun b => (b.toNat : Int)) = b.map (fun b => (b.toNat : Int)) → a = b
  | [], [], _ => rfl
  | [], _ :: _, h => by simp at h
  | _ :: _, [], h => by simp at h
  | x :: a, y :: b, h => by
    simp only [List.map_cons, List.cons.injEq] at h
    have e : x = y := UInt8.toNat_inj.mp (by omega)
    rw [e, map_u8_inj h.2]
theorem bl_inj {s t : ByteArray} (h : bl s = bl t) : s = t := by
  have := map_u8_inj h
  cases s; cases t
  simp only [ByteArray.mk.injEq] at *
  exact Array.toList_inj.mp this
theorem bl_eq {s t : ByteArray} : s = t ↔ bl s = bl t := ⟨fun h => by rw [h], bl_inj⟩
theorem toList_bl {s t : ByteArray} : s.toList = t.toList ↔ bl s = bl t := by
  rw [ByteArray.toList_eq, ByteArray.toList_eq]
  exact ⟨fun h => by unfold bl; rw [h], fun h => by rw [bl_inj h]⟩
theorem bl_range (s : ByteArray) : ∀ x ∈ bl s, 0 ≤ x ∧ x < 256 := by
  intro x hx
  simp only [bl, List.mem_map] at hx
  obtain ⟨b, _, rfl⟩ := hx
  have := b.toNat_lt
  omega
theorem bt_bl (s : ByteArray) (i : Int) : bt s i = (bl s).getD i.toNat 0 := by
  unfold bt bl
  split
  · rename_i h
    have h' : i.toNat < s.data.toList.length := by rw [Array.length_toList]; exact h
    rw [List.getD_eq_getElem?_getD, List.getElem?_map, List.getElem?_eq_getElem h']
    rfl
  · rename_i h
    have h' : s.data.toList.length ≤ i.toNat := by rw [Array.length_toList]; exact Nat.le_of_not_lt h
    rw [List.getD_eq_getElem?_getD, List.getElem?_map, List.getElem?_eq_none h']
    rfl
theorem bl_append (s t : ByteArray) : bl (s ++ t) = bl s ++ bl t := by simp [bl]
theorem bl_extract (s : ByteArray) (a b : Nat) : bl (s.extract a b) = ((bl s).drop a).take (b - a) := by
  simp [bl, List.map_take, List.map_drop]
theorem u8_ofNat (n : Int) (h : 0 ≤ n ∧ n < 256) : ((UInt8.ofNat n.toNat).toNat : Int) = n := by
  rw [UInt8.toNat_ofNat']
  omega
theorem bl_str (xs : List Int) (h : ∀ x ∈ xs, 0 ≤ x ∧ x < 256) : bl (strOfNums xs) = xs := by
  unfold bl
  rw [strOfNums_data, List.map_map]
  conv => rhs; rw [← List.map_id xs]
  exact List.map_congr_left fun x hx => u8_ofNat x (h x hx)
theorem str_bl (s : ByteArray) : strOfNums (bl s) = s := bl_inj (bl_str _ (bl_range s))
theorem str_size (xs : List Int) : (strOfNums xs).size = xs.length := strOfNums_size xs
theorem bl_nil : bl (⟨#[]⟩ : ByteArray) = [] := rfl
theorem bt_lo (s : ByteArray) (i : Int) : 0 ≤ bt s i := (bt_range s i).1
theorem bt_hi (s : ByteArray) (i : Int) : bt s i < 256 := by have := (bt_range s i).2; omega
theorem wr (n : Int) (h : -9223372036854775808 ≤ n) (h' : n ≤ 9223372036854775807) : wrap64 n = n := by unfold wrap64; omega
theorem tdiv_pos (a b : Int) (h : 0 ≤ a) : Int.tdiv a b = a / b := Int.tdiv_eq_ediv_of_nonneg h
theorem tmod_pos (a b : Int) (h : 0 ≤ a) : Int.tmod a b = a % b := Int.tmod_eq_emod_of_nonneg h
theorem succ_of {k d : Nat} (h : d < k) : ∃ m, k = m + 1 := ⟨k - 1, by omega⟩
theorem drop_bt (s : ByteArray) (i : Nat) (h : i < s.size) : (bl s).drop i = bt s i :: (bl s).drop (i + 1) := by
  have h' : i < (bl s).length := by rw [bl_len]; exact h
  rw [List.drop_eq_getElem_cons h', bt_bl, Int.toNat_natCast, List.getD_eq_getElem?_getD, List.getElem?_eq_getElem h']
  rfl
theorem drop_end (s : ByteArray) (i : Nat) (h : s.size ≤ i) : (bl s).drop i = [] := List.drop_eq_nil_of_le (by rw [bl_len]; exact h)
theorem take_snoc_cons {α : Type} (p : List α) (b : α) (l : List α) : (p ++ b :: l).take (p.length + 1) = p ++ [b] := by
  rw [List.take_length_add_append]; simp

-- snippet hex
/-! Hex -/
def fig (d : Int) : Int := if d < 10 then 48 + d else 87 + d
def hexL : List Int → List Int
  | [] => []
  | c :: l => fig (c / 16) :: fig (c % 16) :: hexL l
theorem fig_range (d : Int) (h : 0 ≤ d ∧ d < 16) : 0 ≤ fig d ∧ fig d < 256 := by unfold fig; split <;> omega
theorem spec_fig (d : Int) (h : 0 ≤ d ∧ d < 16) : spec_l01Figure.f d = some (fig d) := by
  unfold spec_l01Figure.f fig
  split
  · rw [wr _ (by omega) (by omega)]; congr 1; omega
  · rw [wr (97 + d) (by omega) (by omega), wr _ (by omega) (by omega)]; congr 1; omega
theorem table_fig : ∀ d : Fin 16, bt (⟨#[48, 49, 50, 51, 52, 53, 54, 55, 56, 57, 97, 98, 99, 100, 101, 102]⟩ : ByteArray) ((d.val : Nat) : Int) = fig ((d.val : Nat) : Int) := by decide
theorem impl_fig (d : Int) (h : 0 ≤ d ∧ d < 16) : bt (⟨#[48, 49, 50, 51, 52, 53, 54, 55, 56, 57, 97, 98, 99, 100, 101, 102]⟩ : ByteArray) d = fig d := by
  have := table_fig ⟨d.toNat, by omega⟩
  simpa [Int.toNat_of_nonneg h.1] using this
theorem hexL_len (l : List Int) : (hexL l).length = 2 * l.length := by
  induction l with
  | nil => rfl
  | cons c l ih => simp only [hexL, List.length_cons, ih]; omega
theorem hexL_range (l : List Int) (h : ∀ x ∈ l, 0 ≤ x ∧ x < 256) : ∀ x ∈ hexL l, 0 ≤ x ∧ x < 256 := by
  induction l with
  | nil => intro x hx; simp [hexL] at hx
  | cons c l ih =>
    intro x hx
    have hc := h c (by simp)
    simp only [hexL, List.mem_cons] at hx
    rcases hx with rfl | rfl | hx
    · exact fig_range _ (by omega)
    · exact fig_range _ (by omega)
    · exact ih (fun y hy => h y (by simp [hy])) x hx
theorem impl_hex_l0 (s : ByteArray) : ∀ (d k i : Nat) (acc : List Int), i + d = s.size → d < k → s.size < 140737488355328 → acc.length + 2 * d < 140737488355328 →
    impl_hex.l0 k s acc i = some (strOfNums (acc ++ hexL ((bl s).drop i))) := by
  intro d
  induction d with
  | zero =>
    intro k i acc h hk hs hl
    obtain ⟨k, rfl⟩ := succ_of hk
    simp only [impl_hex.l0]
    rw [if_neg (by omega), drop_end s i (by omega)]
    simp [hexL]
  | succ d ih =>
    intro k i acc h hk hs hl
    obtain ⟨k, rfl⟩ := succ_of hk
    have lo := bt_lo s i
    have hi := bt_hi s i
    simp only [impl_hex.l0]
    rw [if_pos (by omega), if_pos (by omega), if_pos (by omega), if_pos (by omega), u8_and15 _ lo hi, if_pos (by omega), if_pos (by omega), impl_fig _ (by omega), impl_fig _ (by omega)]
    simp only [Option.bind_some]
    rw [if_pos (by simp only [List.length_cons, List.length_nil]; omega), wr _ (by omega) (by omega), show ((i : Int) + 1) = ((i + 1 : Nat) : Int) by omega, ih k (i + 1) _ (by omega) (by omega) hs (by simp; omega), drop_bt s i (by omega)]
    simp [hexL]
theorem spec_hex_l0 (s : ByteArray) : ∀ (d k i : Nat) (acc : List Int), i + d = s.size → d < k → s.size < 140737488355328 → acc.length + 2 * d < 140737488355328 →
    spec_Hex.l0 k s acc i = some (strOfNums (acc ++ hexL ((bl s).drop i)), true) := by
  intro d
  induction d with
  | zero =>
    intro k i acc h hk hs hl
    obtain ⟨k, rfl⟩ := succ_of hk
    simp only [spec_Hex.l0]
    rw [if_neg (by omega), drop_end s i (by omega)]
    simp [hexL]
  | succ d ih =>
    intro k i acc h hk hs hl
    obtain ⟨k, rfl⟩ := succ_of hk
    have lo := bt_lo s i
    have hi := bt_hi s i
    simp only [spec_Hex.l0]
    rw [if_pos (by omega), if_pos (by omega), wr (bt s i) (by omega) (by omega), tdiv_pos _ _ lo, tmod_pos _ _ lo, wr _ (by omega) (by omega), spec_fig _ (by omega), spec_fig _ (by omega)]
    simp only [Option.bind_some]
    rw [if_pos (by simp only [List.length_cons, List.length_nil]; omega), wr _ (by omega) (by omega), show ((i : Int) + 1) = ((i + 1 : Nat) : Int) by omega, ih k (i + 1) _ (by omega) (by omega) hs (by simp; omega), drop_bt s i (by omega)]
    simp [hexL]
theorem impl_hex_f (k : Nat) (s : ByteArray) (h : s.size ≤ 20000) (hk : 20000 < k) : impl_hex.f k s = some (strOfNums (hexL (bl s))) := by
  have := impl_hex_l0 s s.size k 0 [] (by omega) (by omega) (by omega) (by simp; omega)
  unfold impl_hex.f
  simpa using this
theorem spec_hex_f (k : Nat) (s : ByteArray) (h : s.size ≤ 20000) (hk : 20000 < k) : spec_Hex.f k s = some (strOfNums (hexL (bl s)), true) := by
  have := spec_hex_l0 s s.size k 0 [] (by omega) (by omega) (by omega) (by simp; omega)
  unfold spec_Hex.f
  rw [if_neg (by omega)]
  simpa using this
theorem impl_Hex_f (k : Nat) (s : ByteArray) (h : s.size ≤ 20000) (hk : 20000 < k) : impl_Hex.f k s = some (strOfNums (hexL (bl s)), true) := by
  unfold impl_Hex.f
  rw [if_neg (by omega), impl_hex_f k s h hk]
  rfl

theorem FnExactHex : laws_FnExactHex.Pure := by
  intro s hs
  refine ⟨20001, ?_⟩
  unfold laws_FnExactHex.f
  by_cases h : (s.size : Int) > 1048576
  · rw [if_pos h]
  · rw [if_neg h]
    by_cases h2 : (s.size : Int) > 20000
    · unfold spec_Hex.f impl_Hex.f
      rw [if_pos h2, if_pos h2]; simp
    · rw [spec_hex_f _ s (by omega) (by omega), impl_Hex_f _ s (by omega) (by omega)]
      simp

end Go.Proofs.Ytmlbbikmgnipmab.Pure
