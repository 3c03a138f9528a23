/- Of every hasher of up to 1048576 bytes the program's HashEnd is the reference's. Condition: the table of the rounds' numbers reads as the program's text lays it (tied to that text). -/
import Derived.Test.YtlddohppkcndjaaDoorPFnExactHashEndx1
set_option linter.unusedVariables false
set_option linter.unusedSimpArgs false
namespace Go.Proofs.YtlddohppkcndjaaDoor.Pure
open Go.RowKit Go.Proofs.YtlddohppkcndjaaDoor.PFnExactHashEnd Go.Proofs.YtlddohppkcndjaaDoorW.PrintWords Go.Proofs.YtlddohppkcndjaaDoorW.PrintLast Go.Proofs.YtlddohppkcndjaaDoorW.PrintMore

-- snippet plain
/-! bytes as numbers -/
def bl (s : ByteArray) : List Int := s.data.toList.map fun b => (b.toNat : Int)
theorem bl_len (s : ByteArray) : (bl s).length = s.size := by unfold bl; rw [List.length_map, Array.length_toList]; rfl
theorem map_u8_inj : ∀ {a b : List UInt8}, a.map (fun b => (b.toNat : Int)) = b.map (fun b => (b.toNat : Int)) → a = b
  | [], [], _ => rfl
  | [], _ :: _, h => by simp at h
  | _ :: _, [], h => by simp at h
  | x :: a, y :: b, h => by
    simp only [List.map_cons, List.cons.injEq] at h
    have e : x = y := UInt8.toNat_inj.mp (by omega)
    rw [e, map_u8_inj h.2]
theorem bl_inj {s t : ByteArray} (h : bl s = bl t) : s = t := by
  have := map_u8_inj h
  cases s; cases t
  simp only [ByteArray.mk.injEq] at *
  exact Array.toList_inj.mp this
theorem bl_eq {s t : ByteArray} : s = t ↔ bl s = bl t := ⟨fun h => by rw [h], bl_inj⟩
theorem toList_bl {s t : ByteArray} : s.toList = t.toList ↔ bl s = bl t := by
  rw [ByteArray.toList_eq, ByteArray.toList_eq]
  exact ⟨fun h => by unfold bl; rw [h], fun h => by rw [bl_inj h]⟩
theorem bl_range (s : ByteArray) : ∀ x ∈ bl s, 0 ≤ x ∧ x < 256 := by
  intro x hx
  simp only [bl, List.mem_map] at hx
  obtain ⟨b, _, rfl⟩ := hx
  have := b.toNat_lt
  omega
theorem bt_bl (s : ByteArray) (i : Int) : bt s i = (bl s).getD i.toNat 0 := by
  unfold bt bl
  split
  · rename_i h
    have h' : i.toNat < s.data.toList.length := by rw [Array.length_toList]; exact h
    rw [List.getD_eq_getElem?_getD, List.getElem?_map, List.getElem?_eq_getElem h']
    rfl
  · rename_i h
    have h' : s.data.toList.length ≤ i.toNat := by rw [Array.length_toList]; exact Nat.le_of_not_lt h
    rw [List.getD_eq_getElem?_getD, List.getElem?_map, List.getElem?_eq_none h']
    rfl
theorem bl_append (s t : ByteArray) : bl (s ++ t) = bl s ++ bl t := by simp [bl]
theorem bl_extract (s : ByteArray) (a b : Nat) : bl (s.extract a b) = ((bl s).drop a).take (b - a) := by
  simp [bl, List.map_take, List.map_drop]
theorem u8_ofNat (n : Int) (h : 0 ≤ n ∧ n < 256) : ((UInt8.ofNat n.toNat).toNat : Int) = n := by
  rw [UInt8.toNat_ofNat']
  omega
theorem bl_str (xs : List Int) (h : ∀ x ∈ xs, 0 ≤ x ∧ x < 256) : bl (strOfNums xs) = xs := by
  unfold bl
  rw [strOfNums_data, List.map_map]
  conv => rhs; rw [← List.map_id xs]
  exact List.map_congr_left fun x hx => u8_ofNat x (h x hx)
theorem str_bl (s : ByteArray) : strOfNums (bl s) = s := bl_inj (bl_str _ (bl_range s))
theorem str_size (xs : List Int) : (strOfNums xs).size = xs.length := strOfNums_size xs
theorem bl_nil : bl (⟨#[]⟩ : ByteArray) = [] := rfl
theorem bt_lo (s : ByteArray) (i : Int) : 0 ≤ bt s i := (bt_range s i).1
theorem bt_hi (s : ByteArray) (i : Int) : bt s i < 256 := by have := (bt_range s i).2; omega
theorem wr (n : Int) (h : -9223372036854775808 ≤ n) (h' : n ≤ 9223372036854775807) : wrap64 n = n := by unfold wrap64; omega
theorem wrn {z : Int} (n : Nat) (e : z = n) (h : n ≤ 9223372036854775807) : wrap64 z = n := by rw [e]; exact wr _ (by omega) (by omega)
theorem tdiv_pos (a b : Int) (h : 0 ≤ a) : Int.tdiv a b = a / b := Int.tdiv_eq_ediv_of_nonneg h
theorem tmod_pos (a b : Int) (h : 0 ≤ a) : Int.tmod a b = a % b := Int.tmod_eq_emod_of_nonneg h
theorem succ_of {k d : Nat} (h : d < k) : ∃ m, k = m + 1 := ⟨k - 1, by omega⟩
theorem drop_bt (s : ByteArray) (i : Nat) (h : i < s.size) : (bl s).drop i = bt s i :: (bl s).drop (i + 1) := by
  have h' : i < (bl s).length := by rw [bl_len]; exact h
  rw [List.drop_eq_getElem_cons h', bt_bl, Int.toNat_natCast, List.getD_eq_getElem?_getD, List.getElem?_eq_getElem h']
  rfl
theorem drop_end (s : ByteArray) (i : Nat) (h : s.size ≤ i) : (bl s).drop i = [] := List.drop_eq_nil_of_le (by rw [bl_len]; exact h)
theorem take_snoc_cons {α : Type} (p : List α) (b : α) (l : List α) : (p ++ b :: l).take (p.length + 1) = p ++ [b] := by
  rw [List.take_length_add_append]; simp
attribute [local irreducible] bt

-- snippet hasherlaw
theorem sz_cases (st r : ByteArray) (c : Int) (hst : st.size ≤ 9223372036854775807) (hr : r.size ≤ 9223372036854775807) : laws_szHasher.f st r c 1048576 = some (-1) ∨ ∃ v : Int, laws_szHasher.f st r c 1048576 = some v ∧ 0 ≤ v ∧ st.size ≤ 1048576 ∧ r.size ≤ 1048576 := by
  unfold laws_szHasher.f
  rw [wr (1048576 - (st.size : Int)) (by omega) (by omega)]
  by_cases h : 1048576 - (st.size : Int) < 0
  · rw [if_pos h]; exact .inl rfl
  · rw [if_neg h, wr (1048576 - (st.size : Int) - (r.size : Int)) (by omega) (by omega)]
    by_cases h2 : 1048576 - (st.size : Int) - (r.size : Int) < 0
    · rw [if_pos h2]; exact .inl rfl
    · rw [if_neg h2]; exact .inr ⟨_, rfl, by omega, by omega, by omega⟩

theorem FnExactHashEnd : laws_FnExactHashEnd.Pure := by
  intro st r c hst hr hc
  unfold laws_FnExactHashEnd.f
  rcases sz_cases st r c hst hr with h | ⟨v, h, hv, _, _⟩
  · rw [h, Option.bind_some, if_pos (by decide)]
  · rw [h, Option.bind_some, if_neg (by omega)]
    unfold laws_toHasher.f spec_HashEnd.f impl_HashEnd.f
    simp

end Go.Proofs.YtlddohppkcndjaaDoor.Pure
