/- Of every pool and text of up to 1048576 bytes together the program's fed pool is the reference's. Condition: the table of the rounds' numbers reads as the program's text lays it (tied to that text). -/
import Derived.Test.YtlddohppkcndjaaDoorPFnExactPoolFeedx1
import Derived.Test.YtlddohppkcndjaaDoorShaY
set_option linter.unusedVariables false
set_option linter.unusedSimpArgs false
namespace Go.Proofs.YtlddohppkcndjaaDoor.Pure
open Go.RowKit Go.Proofs.YtlddohppkcndjaaDoor.PFnExactPoolFeed Go.Proofs.YtlddohppkcndjaaDoorW.PrintWords Go.Proofs.YtlddohppkcndjaaDoorW.PrintLast Go.Proofs.YtlddohppkcndjaaDoorW.PrintMore

-- snippet plain
/-! bytes as numbers -/
def bl (s : ByteArray) : List Int := s.data.toList.map fun b => (b.toNat : Int)
theorem bl_len (s : ByteArray) : (bl s).length = s.size := by unfold bl; rw [List.length_map, Array.length_toList]; rfl
theorem map_u8_inj : ∀ {a b : List UInt8}, a.map (fun b => (b.toNat : Int)) = b.map (fun b => (b.toNat : Int)) → a = b
  | [], [], _ => rfl
  | [], _ :: _, h => by simp at h
  | _ :: _, [], h => by simp at h
  | x :: a, y :: b, h => by
    simp only [List.map_cons, List.cons.injEq] at h
    have e : x = y := UInt8.toNat_inj.mp (by omega)
    rw [e, map_u8_inj h.2]
theorem bl_inj {s t : ByteArray} (h : bl s = bl t) : s = t := by
  have := map_u8_inj h
  cases s; cases t
  simp only [ByteArray.mk.injEq] at *
  exact Array.toList_inj.mp this
theorem bl_eq {s t : ByteArray} : s = t ↔ bl s = bl t := ⟨fun h => by rw [h], bl_inj⟩
theorem toList_bl {s t : ByteArray} : s.toList = t.toList ↔ bl s = bl t := by
  rw [ByteArray.toList_eq, ByteArray.toList_eq]
  exact ⟨fun h => by unfold bl; rw [h], fun h => by rw [bl_inj h]⟩
theorem bl_range (s : ByteArray) : ∀ x ∈ bl s, 0 ≤ x ∧ x < 256 := by
  intro x hx
  simp only [bl, List.mem_map] at hx
  obtain ⟨b, _, rfl⟩ := hx
  have := b.toNat_lt
  omega
theorem bt_bl (s : ByteArray) (i : Int) : bt s i = (bl s).getD i.toNat 0 := by
  unfold bt bl
  split
  · rename_i h
    have h' : i.toNat < s.data.toList.length := by rw [Array.length_toList]; exact h
    rw [List.getD_eq_getElem?_getD, List.getElem?_map, List.getElem?_eq_getElem h']
    rfl
  · rename_i h
    have h' : s.data.toList.length ≤ i.toNat := by rw [Array.length_toList]; exact Nat.le_of_not_lt h
    rw [List.getD_eq_getElem?_getD, List.getElem?_map, List.getElem?_eq_none h']
    rfl
theorem bl_append (s t : ByteArray) : bl (s ++ t) = bl s ++ bl t := by simp [bl]
theorem bl_extract (s : ByteArray) (a b : Nat) : bl (s.extract a b) = ((bl s).drop a).take (b - a) := by
  simp [bl, List.map_take, List.map_drop]
theorem u8_ofNat (n : Int) (h : 0 ≤ n ∧ n < 256) : ((UInt8.ofNat n.toNat).toNat : Int) = n := by
  rw [UInt8.toNat_ofNat']
  omega
theorem bl_str (xs : List Int) (h : ∀ x ∈ xs, 0 ≤ x ∧ x < 256) : bl (strOfNums xs) = xs := by
  unfold bl
  rw [strOfNums_data, List.map_map]
  conv => rhs; rw [← List.map_id xs]
  exact List.map_congr_left fun x hx => u8_ofNat x (h x hx)
theorem str_bl (s : ByteArray) : strOfNums (bl s) = s := bl_inj (bl_str _ (bl_range s))
theorem str_size (xs : List Int) : (strOfNums xs).size = xs.length := strOfNums_size xs
theorem bl_nil : bl (⟨#[]⟩ : ByteArray) = [] := rfl
theorem bt_lo (s : ByteArray) (i : Int) : 0 ≤ bt s i := (bt_range s i).1
theorem bt_hi (s : ByteArray) (i : Int) : bt s i < 256 := by have := (bt_range s i).2; omega
theorem wr (n : Int) (h : -9223372036854775808 ≤ n) (h' : n ≤ 9223372036854775807) : wrap64 n = n := by unfold wrap64; omega
theorem wrn {z : Int} (n : Nat) (e : z = n) (h : n ≤ 9223372036854775807) : wrap64 z = n := by rw [e]; exact wr _ (by omega) (by omega)
theorem tdiv_pos (a b : Int) (h : 0 ≤ a) : Int.tdiv a b = a / b := Int.tdiv_eq_ediv_of_nonneg h
theorem tmod_pos (a b : Int) (h : 0 ≤ a) : Int.tmod a b = a % b := Int.tmod_eq_emod_of_nonneg h
theorem succ_of {k d : Nat} (h : d < k) : ∃ m, k = m + 1 := ⟨k - 1, by omega⟩
theorem drop_bt (s : ByteArray) (i : Nat) (h : i < s.size) : (bl s).drop i = bt s i :: (bl s).drop (i + 1) := by
  have h' : i < (bl s).length := by rw [bl_len]; exact h
  rw [List.drop_eq_getElem_cons h', bt_bl, Int.toNat_natCast, List.getD_eq_getElem?_getD, List.getElem?_eq_getElem h']
  rfl
theorem drop_end (s : ByteArray) (i : Nat) (h : s.size ≤ i) : (bl s).drop i = [] := List.drop_eq_nil_of_le (by rw [bl_len]; exact h)
theorem take_snoc_cons {α : Type} (p : List α) (b : α) (l : List α) : (p ++ b :: l).take (p.length + 1) = p ++ [b] := by
  rw [List.take_length_add_append]; simp
attribute [local irreducible] bt

-- snippet poolmix
theorem nil_size (s : ByteArray) : s.toList = ([] : List UInt8) ↔ s.size = 0 := by
  rw [ByteArray.toList_eq]
  constructor
  · intro h
    show s.data.size = 0
    rw [← Array.length_toList, h]
    rfl
  · intro h
    apply List.eq_nil_of_length_eq_zero
    rw [Array.length_toList]
    exact h
theorem mac_ok (a b : ByteArray) (ha : a.size ≤ 900000000) (hb : b.size ≤ 900000000) : spec_MacOf.f a b = some (Sha.mac a b) := by
  unfold spec_MacOf.f
  rw [if_pos ⟨ha, hb⟩]
theorem mix_ok (k v s : ByteArray) (t : Int) (hk : k.size ≤ 100000000) (hv : v.size ≤ 100000000) (hs : s.size ≤ 100000000) : spec_l08Mix.f k v t s = some ((Sha.mixP k v s).1, (Sha.mixP k v s).2, t) := by
  have z0 : (⟨#[0]⟩ : ByteArray).size = 1 := rfl
  have z1 : (⟨#[1]⟩ : ByteArray).size = 1 := rfl
  have m1 := Sha.mac_size k ((v ++ ⟨#[0]⟩) ++ s)
  have m2 := Sha.mac_size (Sha.mac k ((v ++ ⟨#[0]⟩) ++ s)) v
  unfold spec_l08Mix.f Sha.mixP
  simp only
  rw [if_pos (by omega), if_pos (by rw [ByteArray.size_append, z0]; omega), mac_ok _ _ (by omega) (by rw [ByteArray.size_append, ByteArray.size_append, z0]; omega), Option.bind_some, mac_ok _ _ (by omega) (by omega), Option.bind_some]
  by_cases h : s.size = 0
  · rw [if_pos ((nil_size s).mpr h), if_pos h]
  · rw [if_neg (fun e => h ((nil_size s).mp e)), if_neg h, if_pos (by omega), if_pos (by rw [ByteArray.size_append, z1]; omega), mac_ok _ _ (by omega) (by rw [ByteArray.size_append, ByteArray.size_append, z1]; omega), Option.bind_some, mac_ok _ _ (by rw [Sha.mac_size]; omega) (by omega), Option.bind_some]

theorem pool_cases (st r : ByteArray) (c : Int) (hst : st.size ≤ 9223372036854775807) (hr : r.size ≤ 9223372036854775807) : laws_szPool.f st r c 1048576 = some (-1) ∨ ∃ v : Int, laws_szPool.f st r c 1048576 = some v ∧ 0 ≤ v ∧ st.size ≤ 1048576 ∧ r.size ≤ 1048576 := by
  unfold laws_szPool.f
  rw [wr (1048576 - (st.size : Int)) (by omega) (by omega)]
  by_cases h : 1048576 - (st.size : Int) < 0
  · rw [if_pos h]; exact .inl rfl
  · rw [if_neg h, wr (1048576 - (st.size : Int) - (r.size : Int)) (by omega) (by omega)]
    by_cases h2 : 1048576 - (st.size : Int) - (r.size : Int) < 0
    · rw [if_pos h2]; exact .inl rfl
    · rw [if_neg h2]; exact .inr ⟨_, rfl, by omega, by omega, by omega⟩
theorem pok_ok (k v : ByteArray) (t : Int) : spec_PoolOk.f k v t = some (Sha.pOk k v t) := by
  unfold spec_PoolOk.f spec_l01In.f Sha.pOk
  by_cases h1 : k.size = 32
  · rw [if_pos (by omega)]
    by_cases h2 : v.size = 32
    · rw [if_pos (by omega)]
      by_cases h3 : 0 ≤ t <;> simp [h1, h2, h3]
    · rw [if_neg (by omega)]; simp [h2]
  · rw [if_neg (by omega)]; simp [h1]
theorem feed_ok (k v : ByteArray) (t : Int) (s : ByteArray) (hk : k.size ≤ 100000000) (hv : v.size ≤ 100000000) (hs : s.size ≤ 100000000) : spec_PoolFeed.f k v t s = some (Sha.feedP k v t s) := by
  unfold spec_PoolFeed.f Sha.feedP
  rw [pok_ok, Option.bind_some]
  by_cases h : Sha.pOk k v t = true
  · rw [if_pos h, if_pos h, mix_ok _ _ _ _ hk hv hs, Option.bind_some]
  · rw [if_neg h, if_neg h]
theorem FnExactPoolFeed : laws_FnExactPoolFeed.Pure := by
  intro k v t s hk hv ht hs
  unfold laws_FnExactPoolFeed.f
  by_cases h1 : (s.size : Int) > 1048576
  · rw [if_pos h1]
  · rw [if_neg h1]
    rcases pool_cases k v t hk hv with e | ⟨z, e, hz, hk', hv'⟩
    · rw [e, Option.bind_some, if_pos (by decide)]
    · rw [e, Option.bind_some, if_neg (by omega)]
      unfold laws_toPool.f impl_PoolFeed.f
      rw [Option.bind_some]
      simp only
      rw [feed_ok k v t s (by omega) (by omega) (by omega), Option.bind_some, Option.bind_some]
      simp only
      rw [if_pos (by omega), Option.bind_some]
      unfold laws_eqPool.f
      simp

end Go.Proofs.YtlddohppkcndjaaDoor.Pure
