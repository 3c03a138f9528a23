/- Of every hasher the program's HasherOk and the reference's give the same flag. No condition. -/
import Derived.Test.YtmlbbikmgnipmaaPFnExactHasherOkx1
set_option linter.unusedVariables false
set_option linter.unusedSimpArgs false
namespace Go.Proofs.Ytmlbbikmgnipmaa.Pure
open Go.RowKit Go.Proofs.Ytmlbbikmgnipmaa.PFnExactHasherOk Go.Proofs.YtmlbbikmgnipmaaW.PrintWords Go.Proofs.YtmlbbikmgnipmaaW.PrintLast Go.Proofs.YtmlbbikmgnipmaaW.PrintMore

-- snippet plain
/-! bytes as numbers -/
def bl (s : ByteArray) : List Int := s.data.toList.map fun b => (b.toNat : Int)
theorem bl_len (s : ByteArray) : (bl s).length = s.size := by unfold bl; rw [List.length_map, Array.length_toList]; rfl
theorem map_u8_inj : ∀ {a b : List UInt8}, a.map (fun b => (b.toNat : Int)) = b.map (fun b => (b.toNat : Int)) → a = b
  | [], [], _ => rfl
  | [], _ :: _, h => by simp at h
  | _ :: _, [], h => by simp at h
  | x :: a, y :: b, h => by
    simp only [List.map_cons, List.cons.injEq] at h
    have e : x = y := UInt8.toNat_inj.mp (by omega)
    rw [e, map_u8_inj h.2]
theorem bl_inj {s t : ByteArray} (h : bl s = bl t) : s = t := by
  have := map_u8_inj h
  cases s; cases t
  simp only [ByteArray.mk.injEq] at *
  exact Array.toList_inj.mp this
theorem bl_eq {s t : ByteArray} : s = t ↔ bl s = bl t := ⟨fun h => by rw [h], bl_inj⟩
theorem toList_bl {s t : ByteArray} : s.toList = t.toList ↔ bl s = bl t := by
  rw [ByteArray.toList_eq, ByteArray.toList_eq]
  exact ⟨fun h => by unfold bl; rw [h], fun h => by rw [bl_inj h]⟩
theorem bl_range (s : ByteArray) : ∀ x ∈ bl s, 0 ≤ x ∧ x < 256 := by
  intro x hx
  simp only [bl, List.mem_map] at hx
  obtain ⟨b, _, rfl⟩ := hx
  have := b.toNat_lt
  omega
theorem bt_bl (s : ByteArray) (i : Int) : bt s i = (bl s).getD i.toNat 0 := by
  unfold bt bl
  split
  · rename_i h
    have h' : i.toNat < s.data.toList.length := by rw [Array.length_toList]; exact h
    rw [List.getD_eq_getElem?_getD, List.getElem?_map, List.getElem?_eq_getElem h']
    rfl
  · rename_i h
    have h' : s.data.toList.length ≤ i.toNat := by rw [Array.length_toList]; exact Nat.le_of_not_lt h
    rw [List.getD_eq_getElem?_getD, List.getElem?_map, List.getElem?_eq_none h']
    rfl
theorem bl_append (s t : ByteArray) : bl (s ++ t) = bl s ++ bl t := by simp [bl]
theorem bl_extract (s : ByteArray) (a b : Nat) : bl (s.extract a b) = ((bl s).drop a).take (b - a) := by
  simp [bl, List.map_take, List.map_drop]
theorem u8_ofNat (n : Int) (h : 0 ≤ n ∧ n < 256) : ((UInt8.ofNat n.toNat).toNat : Int) = n := by
  rw [UInt8.toNat_ofNat']
  omega
theorem bl_str (xs : List Int) (h : ∀ x ∈ xs, 0 ≤ x ∧ x < 256) : bl (strOfNums xs) = xs := by
  unfold bl
  rw [strOfNums_data, List.map_map]
  conv => rhs; rw [← List.map_id xs]
  exact List.map_congr_left fun x hx => u8_ofNat x (h x hx)
theorem str_bl (s : ByteArray) : strOfNums (bl s) = s := bl_inj (bl_str _ (bl_range s))
theorem str_size (xs : List Int) : (strOfNums xs).size = xs.length := strOfNums_size xs
theorem bl_nil : bl (⟨#[]⟩ : ByteArray) = [] := rfl
theorem bt_lo (s : ByteArray) (i : Int) : 0 ≤ bt s i := (bt_range s i).1
theorem bt_hi (s : ByteArray) (i : Int) : bt s i < 256 := by have := (bt_range s i).2; omega
theorem wr (n : Int) (h : -9223372036854775808 ≤ n) (h' : n ≤ 9223372036854775807) : wrap64 n = n := by unfold wrap64; omega
theorem tdiv_pos (a b : Int) (h : 0 ≤ a) : Int.tdiv a b = a / b := Int.tdiv_eq_ediv_of_nonneg h
theorem tmod_pos (a b : Int) (h : 0 ≤ a) : Int.tmod a b = a % b := Int.tmod_eq_emod_of_nonneg h
theorem succ_of {k d : Nat} (h : d < k) : ∃ m, k = m + 1 := ⟨k - 1, by omega⟩
theorem drop_bt (s : ByteArray) (i : Nat) (h : i < s.size) : (bl s).drop i = bt s i :: (bl s).drop (i + 1) := by
  have h' : i < (bl s).length := by rw [bl_len]; exact h
  rw [List.drop_eq_getElem_cons h', bt_bl, Int.toNat_natCast, List.getD_eq_getElem?_getD, List.getElem?_eq_getElem h']
  rfl
theorem drop_end (s : ByteArray) (i : Nat) (h : s.size ≤ i) : (bl s).drop i = [] := List.drop_eq_nil_of_le (by rw [bl_len]; exact h)
theorem take_snoc_cons {α : Type} (p : List α) (b : α) (l : List α) : (p ++ b :: l).take (p.length + 1) = p ++ [b] := by
  rw [List.take_length_add_append]; simp
attribute [local irreducible] bt

-- snippet hasherok
/-! right hashers -/
def hashOk (st rest : ByteArray) (n : Int) : Bool := decide (st.size = 32 ∧ 0 ≤ n ∧ n ≤ 1000000000 ∧ (rest.size : Int) = n % 64)
theorem impl_HasherOk_f (st rest : ByteArray) (n : Int) : impl_HasherOk.f st rest n = some (hashOk st rest n) := by
  unfold impl_HasherOk.f impl_in.f hashOk
  by_cases a : st.size = 32
  · rw [if_pos (show (st.size : Int) = 32 by omega)]
    by_cases b : 0 ≤ n
    · rw [if_pos (show n ≥ 0 from b), Option.bind_some, tmod_pos _ _ b]
      by_cases c : n ≤ 1000000000
      · rw [if_pos (by simpa using c)]
        congr 1
        rw [Bool.eq_iff_iff]
        simp
        omega
      · rw [if_neg (by simpa using c)]
        congr 1
        symm
        rw [decide_eq_false_iff_not]
        exact fun h => c h.2.2.1
    · rw [if_neg (show ¬ n ≥ 0 from b), Option.bind_some, if_neg (by simp)]
      congr 1
      symm
      rw [decide_eq_false_iff_not]
      exact fun h => b h.2.1
  · rw [if_neg (show ¬ (st.size : Int) = 32 by omega)]
    congr 1
    symm
    rw [decide_eq_false_iff_not]
    exact fun h => a h.1

-- snippet hasherok_spec
theorem spec_HasherOk_f (st rest : ByteArray) (n : Int) : spec_HasherOk.f st rest n = some (hashOk st rest n) := by
  unfold spec_HasherOk.f spec_l01In.f hashOk
  by_cases a : st.size = 32
  · rw [if_pos (show (st.size : Int) = 32 by omega)]
    by_cases r : (rest.size : Int) < 64
    · rw [if_pos r]
      by_cases b : 0 ≤ n
      · rw [if_pos (show n ≥ 0 from b), Option.bind_some, tmod_pos _ _ b]
        by_cases c : n ≤ 1000000000
        · rw [if_pos (by simpa using c)]
          congr 1
          rw [Bool.eq_iff_iff]
          simp
          omega
        · rw [if_neg (by simpa using c)]
          congr 1
          symm
          rw [decide_eq_false_iff_not]
          exact fun h => c h.2.2.1
      · rw [if_neg (show ¬ n ≥ 0 from b), Option.bind_some, if_neg (by simp)]
        congr 1
        symm
        rw [decide_eq_false_iff_not]
        exact fun h => b h.2.1
    · rw [if_neg r]
      congr 1
      symm
      rw [decide_eq_false_iff_not]
      intro h
      have := Int.emod_lt_of_pos n (show (0 : Int) < 64 by decide)
      omega
  · rw [if_neg (show ¬ (st.size : Int) = 32 by omega)]
    congr 1
    symm
    rw [decide_eq_false_iff_not]
    exact fun h => a h.1

theorem FnExactHasherOk : laws_FnExactHasherOk.Pure := by
  intro k v t hk hv ht
  unfold laws_FnExactHasherOk.f laws_szHasher.f laws_toHasher.f
  rw [wr (1048576 - (k.size : Int)) (by omega) (by omega)]
  by_cases h : 1048576 - (k.size : Int) < 0
  · rw [if_pos h, Option.bind_some, if_pos (by decide)]
  · rw [if_neg h, wr (1048576 - (k.size : Int) - (v.size : Int)) (by omega) (by omega)]
    by_cases h2 : 1048576 - (k.size : Int) - (v.size : Int) < 0
    · rw [if_pos h2, Option.bind_some, if_pos (by decide)]
    · rw [if_neg h2, Option.bind_some, if_neg h2, Option.bind_some]
      simp only
      rw [spec_HasherOk_f, Option.bind_some, Option.bind_some]
      simp only
      rw [impl_HasherOk_f, Option.bind_some]
      simp

end Go.Proofs.Ytmlbbikmgnipmaa.Pure
