/- Of every text the program's Unhex and the reference's give the same text and the same flag. No condition but the form's own bound on a text's size. -/
import Derived.Test.YtmlbbikmgnipmabPFnExactUnhexx1
set_option linter.unusedVariables false
set_option linter.unusedSimpArgs false
namespace Go.Proofs.Ytmlbbikmgnipmab.Pure
open Go.RowKit Go.Proofs.Ytmlbbikmgnipmab.PFnExactUnhex Go.Proofs.YtmlbbikmgnipmabW.PrintWords Go.Proofs.YtmlbbikmgnipmabW.PrintLast Go.Proofs.YtmlbbikmgnipmabW.PrintMore

-- snippet plain
/-! bytes as numbers -/
def bl (s : ByteArray) : List Int := s.data.toList.map fun b => (b.toNat : Int)
theorem bl_len (s : ByteArray) : (bl s).length = s.size := by unfold bl; rw [List.length_map, Array.length_toList]; rfl
theorem map_u8_inj : ∀ {a b : List UInt8}, a.map (fun b => (b.toNat : Int)) = b.map (fun b => (b.toNat : Int)) → a = b
  | [], [], _ => rfl
  | [], _ :: _, h => by simp at h
  | _ :: _, [], h => by simp at h
  | x :: a, y :: b, h => by
    simp only [List.map_cons, List.cons.injEq] at h
    have e : x = y := UInt8.toNat_inj.mp (by omega)
    rw [e, map_u8_inj h.2]
theorem bl_inj {s t : ByteArray} (h : bl s = bl t) : s = t := by
  have := map_u8_inj h
  cases s; cases t
  simp only [ByteArray.mk.injEq] at *
  exact Array.toList_inj.mp this
theorem bl_eq {s t : ByteArray} : s = t ↔ bl s = bl t := ⟨fun h => by rw [h], bl_inj⟩
theorem toList_bl {s t : ByteArray} : s.toList = t.toList ↔ bl s = bl t := by
  rw [ByteArray.toList_eq, ByteArray.toList_eq]
  exact ⟨fun h => by unfold bl; rw [h], fun h => by rw [bl_inj h]⟩
theorem bl_range (s : ByteArray) : ∀ x ∈ bl s, 0 ≤ x ∧ x < 256 := by
  intro x hx
  simp only [bl, List.mem_map] at hx
  obtain ⟨b, _, rfl⟩ := hx
  have := b.toNat_lt
  omega
theorem bt_bl (s : ByteArray) (i : Int) : bt s i = (bl s).getD i.toNat 0 := by
  unfold bt bl
  split
  · rename_i h
    have h' : i.toNat < s.data.toList.length := by rw [Array.length_toList]; exact h
    rw [List.getD_eq_getElem?_getD, List.getElem?_map, List.getElem?_eq_getElem h']
    rfl
  · rename_i h
    have h' : s.data.toList.length ≤ i.toNat := by rw [Array.length_toList]; exact Nat.le_of_not_lt h
    rw [List.getD_eq_getElem?_getD, List.getElem?_map, List.getElem?_eq_none h']
    rfl
theorem bl_append (s t : ByteArray) : bl (s ++ t) = bl s ++ bl t := by simp [bl]
theorem bl_extract (s : ByteArray) (a b : Nat) : bl (s.extract a b) = ((bl s).drop a).take (b - a) := by
  simp [bl, List.map_take, List.map_drop]
theorem u8_ofNat (n : Int) (h : 0 ≤ n ∧ n < 256) : ((UInt8.ofNat n.toNat).toNat : Int) = n := by
  rw [UInt8.toNat_ofNat']
  omega
theorem bl_str (xs : List Int) (h : ∀ x ∈ xs, 0 ≤ x ∧ x < 256) : bl (strOfNums xs) = xs := by
  unfold bl
  rw [strOfNums_data, List.map_map]
  conv => rhs; rw [← List.map_id xs]
  exact List.map_congr_left fun x hx => u8_ofNat x (h x hx)
theorem str_bl (s : ByteArray) : strOfNums (bl s) = s := bl_inj (bl_str _ (bl_range s))
theorem str_size (xs : List Int) : (strOfNums xs).size = xs.length := strOfNums_size xs
theorem bl_nil : bl (⟨#[]⟩ : ByteArray) = [] := rfl
theorem bt_lo (s : ByteArray) (i : Int) : 0 ≤ bt s i := (bt_range s i).1
theorem bt_hi (s : ByteArray) (i : Int) : bt s i < 256 := by have := (bt_range s i).2; omega
theorem wr (n : Int) (h : -9223372036854775808 ≤ n) (h' : n ≤ 9223372036854775807) : wrap64 n = n := by unfold wrap64; omega
theorem tdiv_pos (a b : Int) (h : 0 ≤ a) : Int.tdiv a b = a / b := Int.tdiv_eq_ediv_of_nonneg h
theorem tmod_pos (a b : Int) (h : 0 ≤ a) : Int.tmod a b = a % b := Int.tmod_eq_emod_of_nonneg h
theorem succ_of {k d : Nat} (h : d < k) : ∃ m, k = m + 1 := ⟨k - 1, by omega⟩
theorem drop_bt (s : ByteArray) (i : Nat) (h : i < s.size) : (bl s).drop i = bt s i :: (bl s).drop (i + 1) := by
  have h' : i < (bl s).length := by rw [bl_len]; exact h
  rw [List.drop_eq_getElem_cons h', bt_bl, Int.toNat_natCast, List.getD_eq_getElem?_getD, List.getElem?_eq_getElem h']
  rfl
theorem drop_end (s : ByteArray) (i : Nat) (h : s.size ≤ i) : (bl s).drop i = [] := List.drop_eq_nil_of_le (by rw [bl_len]; exact h)
theorem take_snoc_cons {α : Type} (p : List α) (b : α) (l : List α) : (p ++ b :: l).take (p.length + 1) = p ++ [b] := by
  rw [List.take_length_add_append]; simp

-- snippet unhex
/-! Unhex -/
def hval (c : Int) : Int := if 48 ≤ c ∧ c ≤ 57 then c - 48 else if 97 ≤ c ∧ c ≤ 102 then c - 87 else -1
theorem hval_range (c : Int) : -1 ≤ hval c ∧ hval c < 16 := by unfold hval; split <;> (try split) <;> omega
theorem impl_digit (k : Nat) (c : Int) (h : 0 ≤ c ∧ c < 256) : impl_hexDigit.f (k + 1) c = some (hval c) := by
  unfold impl_hexDigit.f hval
  simp only [impl_hexDigit.j0]
  by_cases a : 48 ≤ c <;> by_cases b : c ≤ 57 <;> by_cases d : 97 ≤ c <;> by_cases e : c ≤ 102 <;> simp [a, b, d, e] <;> omega
theorem spec_digit (k : Nat) (c : Int) (h : 0 ≤ c ∧ c < 256) : spec_l01Value.f (k + 1) c = some (hval c) := by
  unfold spec_l01Value.f hval
  simp only [spec_l01Value.j0]
  rw [wr c (by omega) (by omega), wr (c - 48) (by omega) (by omega), wr (c - 97) (by omega) (by omega), wr (c - 97 + 10) (by omega) (by omega)]
  by_cases a : 48 ≤ c <;> by_cases b : c ≤ 57 <;> by_cases d : 97 ≤ c <;> by_cases e : c ≤ 102 <;> simp [a, b, d, e] <;> omega
theorem impl_digit' (k : Nat) (hk : 0 < k) (c : Int) (h : 0 ≤ c ∧ c < 256) : impl_hexDigit.f k c = some (hval c) := by
  obtain ⟨k, rfl⟩ := succ_of hk
  exact impl_digit k c h
theorem digit_same (k : Nat) (c : Int) (h : 0 ≤ c ∧ c < 256) : spec_l01Value.f k c = impl_hexDigit.f k c := by
  cases k with
  | zero => unfold spec_l01Value.f impl_hexDigit.f; split <;> rfl
  | succ k => rw [impl_digit k c h, spec_digit k c h]
theorem unhex_same : ∀ (k : Nat) (s : ByteArray) (acc : List Int) (i : Int), spec_Unhex.l0 k s acc i = impl_Unhex.l0 k s acc i
  | 0, _, _, _ => rfl
  | k + 1, s, acc, i => by simp only [spec_Unhex.l0, impl_Unhex.l0, unhex_same k, digit_same k _ ⟨bt_lo s _, bt_hi s _⟩]
def unhL : List Int → Option (List Int)
  | [] => some []
  | [_] => none
  | a :: b :: l => if hval a < 0 ∨ hval b < 0 then none else (unhL l).map fun r => (16 * hval a + hval b) :: r
def unhR (acc : List Int) (r : Option (List Int)) : ByteArray × Bool := match r with
  | none => ((⟨#[]⟩ : ByteArray), false)
  | some l => (strOfNums (acc ++ l), true)
theorem unhex_l0 (s : ByteArray) (hs : s.size < 140737488355328) : ∀ (d k i : Nat) (acc : List Int), i + 2 * d = s.size → d + 2 ≤ k → acc.length + d < 140737488355328 →
    impl_Unhex.l0 k s acc i = some (unhR acc (unhL ((bl s).drop i))) := by
  intro d
  induction d with
  | zero =>
    intro k i acc h hk hl
    obtain ⟨k, rfl⟩ := succ_of hk
    simp only [impl_Unhex.l0]
    rw [if_neg (by omega), drop_end s i (by omega)]
    simp [unhL, unhR]
  | succ d ih =>
    intro k i acc h hk hl
    obtain ⟨k, rfl⟩ := succ_of hk
    have e1 : wrap64 ((i : Int) + 1) = ((i + 1 : Nat) : Int) := by rw [wr _ (by omega) (by omega)]; omega
    have e2 : wrap64 ((i : Int) + 2) = ((i + 2 : Nat) : Int) := by rw [wr _ (by omega) (by omega)]; omega
    have r1 := hval_range (bt s i)
    have r2 := hval_range (bt s ((i + 1 : Nat) : Int))
    simp only [impl_Unhex.l0]
    rw [if_pos (by omega), if_pos (by omega), impl_digit' k (by omega) _ ⟨bt_lo s _, bt_hi s _⟩, e1, e2, Option.bind_some, if_pos (by omega), if_pos (by omega), impl_digit' k (by omega) _ ⟨bt_lo s _, bt_hi s _⟩, Option.bind_some]
    rw [drop_bt s i (by omega), drop_bt s (i + 1) (by omega)]
    simp only [unhL]
    by_cases a : hval (bt s i) < 0
    · rw [if_pos a, if_pos (Or.inl a)]; rfl
    · by_cases b : hval (bt s ((i + 1 : Nat) : Int)) < 0
      · rw [if_neg a, if_pos b, if_pos (Or.inr b)]; rfl
      · rw [if_neg a, if_neg b, if_pos (by omega), if_neg (by omega), ih k (i + 2) _ (by omega) (by omega) (by simp; omega)]
        rw [wr (16 * hval (bt s i)) (by omega) (by omega), wr _ (by omega) (by omega)]
        have e3 : (16 * hval (bt s i) + hval (bt s ((i + 1 : Nat) : Int))) % 256 = 16 * hval (bt s i) + hval (bt s ((i + 1 : Nat) : Int)) := by omega
        rw [e3]
        cases unhL ((bl s).drop (i + 2)) with
        | none => rfl
        | some l => simp [unhR]
theorem impl_Unhex_f (k : Nat) (s : ByteArray) (h : s.size ≤ 40000) (h2 : s.size % 2 = 0) (hk : 40000 < k) : impl_Unhex.f k s = some (unhR [] (unhL (bl s))) := by
  obtain ⟨k, rfl⟩ := succ_of hk
  have := unhex_l0 s (by omega) (s.size / 2) k 0 [] (by omega) (by omega) (by simp; omega)
  unfold impl_Unhex.f
  simp only [impl_Unhex.j0]
  rw [if_pos (by omega), if_neg (by simp; omega)]
  simpa using this

theorem FnExactUnhex : laws_FnExactUnhex.Pure := by
  intro s hs
  refine ⟨40001, ?_⟩
  unfold laws_FnExactUnhex.f
  by_cases h : (s.size : Int) > 1048576
  · rw [if_pos h]
  · rw [if_neg h]
    by_cases h2 : (s.size : Int) > 40000
    · have a : spec_Unhex.f 40001 s = some ((⟨#[]⟩ : ByteArray), false) := by unfold spec_Unhex.f; rw [if_pos h2]; simp only [spec_Unhex.j0]; rfl
      have b : impl_Unhex.f 40001 s = some ((⟨#[]⟩ : ByteArray), false) := by
        unfold impl_Unhex.f
        simp only [impl_Unhex.j0]
        split
        · rw [if_pos (by simp; omega)]
        · simp
      rw [a, b]; simp
    · by_cases h3 : s.size % 2 = 0
      · have b := impl_Unhex_f 40001 s (by omega) h3 (by omega)
        have a : spec_Unhex.f 40001 s = impl_Unhex.f 40001 s := by
          unfold spec_Unhex.f impl_Unhex.f
          simp only [spec_Unhex.j0, impl_Unhex.j0, unhex_same]
          have c1 : (((s.size : Int) % 2) != 0) = false := by simp; omega
          have c2 : decide ((s.size : Int) > 40000) = false := by simp; omega
          rw [if_neg h2, if_pos (show ((s.size : Int) % 2) = 0 by omega), c1, c2]
        rw [a, b]; simp
      · have a : spec_Unhex.f 40001 s = some ((⟨#[]⟩ : ByteArray), false) := by
          unfold spec_Unhex.f
          simp only [spec_Unhex.j0]
          have c1 : (((s.size : Int) % 2) != 0) = true := by simp; omega
          rw [if_neg h2, c1]; simp
        have b : impl_Unhex.f 40001 s = some ((⟨#[]⟩ : ByteArray), false) := by
          unfold impl_Unhex.f
          simp only [impl_Unhex.j0]
          rw [if_neg (by omega)]; simp
        rw [a, b]; simp

end Go.Proofs.Ytmlbbikmgnipmab.Pure
