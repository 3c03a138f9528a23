/- Of every drawn text: permuted, it is another one of as many bytes, the document's; unlike ones are permuted to unlike ones. No condition. -/
import Derived.Test.YtmocccmffmacdaaPFnPermutesx2
set_option linter.unusedVariables false
set_option linter.unusedSimpArgs false
namespace Go.Proofs.Ytmocccmffmacdaa.Pure
open Go.RowKit Go.Proofs.Ytmocccmffmacdaa.PFnPermutes Go.Proofs.YtmocccmffmacdaaW.PrintWords Go.Proofs.YtmocccmffmacdaaW.PrintLast Go.Proofs.YtmocccmffmacdaaW.PrintMore

-- snippet plain
/-! bytes as numbers -/
def bl (s : ByteArray) : List Int := s.data.toList.map fun b => (b.toNat : Int)
theorem bl_len (s : ByteArray) : (bl s).length = s.size := by unfold bl; rw [List.length_map, Array.length_toList]; rfl
theorem map_u8_inj : ∀ {a b : List UInt8}, a.map (fun b => (b.toNat : Int)) = b.map (fun b => (b.toNat : Int)) → a = b
  | [], [], _ => rfl
  | [], _ :: _, h => by simp at h
  | _ :: _, [], h => by simp at h
  | x :: a, y :: b, h => by
    simp only [List.map_cons, List.cons.injEq] at h
    have e : x = y := UInt8.toNat_inj.mp (by omega)
    rw [e, map_u8_inj h.2]
theorem bl_inj {s t : ByteArray} (h : bl s = bl t) : s = t := by
  have := map_u8_inj h
  cases s; cases t
  simp only [ByteArray.mk.injEq] at *
  exact Array.toList_inj.mp this
theorem bl_eq {s t : ByteArray} : s = t ↔ bl s = bl t := ⟨fun h => by rw [h], bl_inj⟩
theorem toList_bl {s t : ByteArray} : s.toList = t.toList ↔ bl s = bl t := by
  rw [ByteArray.toList_eq, ByteArray.toList_eq]
  exact ⟨fun h => by unfold bl; rw [h], fun h => by rw [bl_inj h]⟩
theorem bl_range (s : ByteArray) : ∀ x ∈ bl s, 0 ≤ x ∧ x < 256 := by
  intro x hx
  simp only [bl, List.mem_map] at hx
  obtain ⟨b, _, rfl⟩ := hx
  have := b.toNat_lt
  omega
theorem bt_bl (s : ByteArray) (i : Int) : bt s i = (bl s).getD i.toNat 0 := by
  unfold bt bl
  split
  · rename_i h
    have h' : i.toNat < s.data.toList.length := by rw [Array.length_toList]; exact h
    rw [List.getD_eq_getElem?_getD, List.getElem?_map, List.getElem?_eq_getElem h']
    rfl
  · rename_i h
    have h' : s.data.toList.length ≤ i.toNat := by rw [Array.length_toList]; exact Nat.le_of_not_lt h
    rw [List.getD_eq_getElem?_getD, List.getElem?_map, List.getElem?_eq_none h']
    rfl
theorem bl_append (s t : ByteArray) : bl (s ++ t) = bl s ++ bl t := by simp [bl]
theorem bl_extract (s : ByteArray) (a b : Nat) : bl (s.extract a b) = ((bl s).drop a).take (b - a) := by
  simp [bl, List.map_take, List.map_drop]
theorem u8_ofNat (n : Int) (h : 0 ≤ n ∧ n < 256) : ((UInt8.ofNat n.toNat).toNat : Int) = n := by
  rw [UInt8.toNat_ofNat']
  omega
theorem bl_str (xs : List Int) (h : ∀ x ∈ xs, 0 ≤ x ∧ x < 256) : bl (strOfNums xs) = xs := by
  unfold bl
  rw [strOfNums_data, List.map_map]
  conv => rhs; rw [← List.map_id xs]
  exact List.map_congr_left fun x hx => u8_ofNat x (h x hx)
theorem str_bl (s : ByteArray) : strOfNums (bl s) = s := bl_inj (bl_str _ (bl_range s))
theorem str_size (xs : List Int) : (strOfNums xs).size = xs.length := strOfNums_size xs
theorem bl_nil : bl (⟨#[]⟩ : ByteArray) = [] := rfl
theorem bt_lo (s : ByteArray) (i : Int) : 0 ≤ bt s i := (bt_range s i).1
theorem bt_hi (s : ByteArray) (i : Int) : bt s i < 256 := by have := (bt_range s i).2; omega
theorem wr (n : Int) (h : -9223372036854775808 ≤ n) (h' : n ≤ 9223372036854775807) : wrap64 n = n := by unfold wrap64; omega
theorem wrn {z : Int} (n : Nat) (e : z = n) (h : n ≤ 9223372036854775807) : wrap64 z = n := by rw [e]; exact wr _ (by omega) (by omega)
theorem tdiv_pos (a b : Int) (h : 0 ≤ a) : Int.tdiv a b = a / b := Int.tdiv_eq_ediv_of_nonneg h
theorem tmod_pos (a b : Int) (h : 0 ≤ a) : Int.tmod a b = a % b := Int.tmod_eq_emod_of_nonneg h
theorem succ_of {k d : Nat} (h : d < k) : ∃ m, k = m + 1 := ⟨k - 1, by omega⟩
theorem drop_bt (s : ByteArray) (i : Nat) (h : i < s.size) : (bl s).drop i = bt s i :: (bl s).drop (i + 1) := by
  have h' : i < (bl s).length := by rw [bl_len]; exact h
  rw [List.drop_eq_getElem_cons h', bt_bl, Int.toNat_natCast, List.getD_eq_getElem?_getD, List.getElem?_eq_getElem h']
  rfl
theorem drop_end (s : ByteArray) (i : Nat) (h : s.size ≤ i) : (bl s).drop i = [] := List.drop_eq_nil_of_le (by rw [bl_len]; exact h)
theorem take_snoc_cons {α : Type} (p : List α) (b : α) (l : List α) : (p ++ b :: l).take (p.length + 1) = p ++ [b] := by
  rw [List.take_length_add_append]; simp
attribute [local irreducible] bt

-- snippet draw
/-! draws -/
theorem mask_range (x : Int) : 0 ≤ Go.bits .and .i64 x 255 ∧ Go.bits .and .i64 x 255 ≤ 255 := by
  unfold Go.bits
  have h : (BitVec.ofInt IntKind.i64.bits x &&& BitVec.ofInt IntKind.i64.bits 255).toNat ≤ 255 := by
    rw [BitVec.toNat_and]
    exact Nat.le_trans Nat.and_le_right (by decide)
  simp only [IntKind.wrap_i64]
  generalize (BitVec.ofInt IntKind.i64.bits x &&& BitVec.ofInt IntKind.i64.bits 255).toNat = n at h
  omega
def curOk (b : List Int) (i : Int) : Prop := 0 ≤ i ∧ i ≤ b.length
theorem byte_ok (b : List Int) (hb : b.length ≤ 1048576) (i h : Int) (hi : curOk b i) : ∃ x i' h', spec_l01Byte.f b i h = some (x, i', h') ∧ 0 ≤ x ∧ x ≤ 255 ∧ curOk b i' := by
  obtain ⟨h0, h1⟩ := hi
  unfold spec_l01Byte.f
  by_cases c : i < (b.length : Int)
  · rw [if_pos c, if_pos h0, wr (i + 1) (by omega) (by omega)]
    exact ⟨_, _, _, rfl, (mask_range _).1, (mask_range _).2, by unfold curOk; omega⟩
  · rw [if_neg c]
    exact ⟨_, _, _, rfl, (mask_range _).1, (mask_range _).2, ⟨h0, h1⟩⟩
theorem below_ok (b : List Int) (hb : b.length ≤ 1048576) (i h n : Int) (hi : curOk b i) (hn : 0 < n) : ∃ x i' h', spec_l01Below.f b i h n = some (x, i', h') ∧ 0 ≤ x ∧ x < n ∧ curOk b i' := by
  unfold spec_l01Below.f
  rw [if_neg (show ¬ n ≤ 0 by omega)]
  obtain ⟨x1, i1, h1, e1, l1, u1, c1⟩ := byte_ok b hb i h hi
  by_cases c : n ≤ 256
  · rw [if_pos c, e1, Option.bind_some, if_neg (show ¬ n = 0 by omega)]
    exact ⟨_, _, _, rfl, Int.tmod_nonneg _ l1, Int.tmod_lt_of_pos _ hn, c1⟩
  · obtain ⟨x2, i2, h2, e2, l2, u2, c2⟩ := byte_ok b hb i1 h1 c1
    obtain ⟨x3, i3, h3, e3, l3, u3, c3⟩ := byte_ok b hb i2 h2 c2
    obtain ⟨x4, i4, h4, e4, l4, u4, c4⟩ := byte_ok b hb i3 h3 c3
    rw [if_neg c, e1, Option.bind_some]
    simp only
    rw [e2, Option.bind_some]
    simp only
    rw [e3, Option.bind_some]
    simp only
    rw [e4, Option.bind_some]
    simp only
    rw [if_neg (show ¬ n = 0 by omega), wr (x1 * 16777216) (by omega) (by omega), wr (x2 * 65536) (by omega) (by omega), wr (x3 * 256) (by omega) (by omega), wr (x1 * 16777216 + x2 * 65536) (by omega) (by omega), wr (x1 * 16777216 + x2 * 65536 + x3 * 256) (by omega) (by omega), wr (x1 * 16777216 + x2 * 65536 + x3 * 256 + x4) (by omega) (by omega)]
    exact ⟨_, _, _, rfl, Int.tmod_nonneg _ (by omega), Int.tmod_lt_of_pos _ hn, c4⟩
theorem new_l0 (b : List Int) (hb : b.length ≤ 1048576) : ∀ (d : Nat) (i : Nat) (h : Int), i + d = 4000 → ∃ h', ∀ K, d < K → spec_l01New.l0 K b h i = some (b, 0, h') := by
  intro d
  induction d with
  | zero =>
    intro i h hi
    refine ⟨h, fun K hK => ?_⟩
    obtain ⟨K, rfl⟩ := succ_of hK
    simp only [spec_l01New.l0]
    by_cases c : (i : Int) < (b.length : Int)
    · rw [if_pos c, if_neg (show ¬ (i : Int) < 4000 by omega)]
    · rw [if_neg c]
  | succ d ih =>
    intro i h hi
    by_cases c : (i : Int) < (b.length : Int)
    · obtain ⟨h', e⟩ := ih (i + 1) (Go.bits .and .i64 (wrap64 ((wrap64 ((wrap64 (h * 131)) + (wrap64 (rd b i)))) + 7)) 1073741823) (by omega)
      refine ⟨h', fun K hK => ?_⟩
      obtain ⟨K, rfl⟩ := succ_of hK
      simp only [spec_l01New.l0]
      rw [if_pos c, if_pos (show (i : Int) < 4000 by omega), if_pos (show 0 ≤ (i : Int) by omega), wr ((i : Int) + 1) (by omega) (by omega), show ((i : Int) + 1) = ((i + 1 : Nat) : Int) by omega]
      exact e K (by omega)
    · refine ⟨h, fun K hK => ?_⟩
      obtain ⟨K, rfl⟩ := succ_of hK
      simp only [spec_l01New.l0]
      rw [if_neg c]
theorem new_ok (b : List Int) (hb : b.length ≤ 1048576) : ∃ h', ∀ K, 4001 ≤ K → spec_l01New.f K b = some (b, 0, h') := by
  obtain ⟨h', e⟩ := new_l0 b hb 4000 0 (wrap64 (27401 + (b.length : Int))) (by omega)
  exact ⟨h', fun K hK => e K (by omega)⟩

-- snippet long
theorem long_l0 (n x : Int) : ∀ (d j K : Nat) (l : List Int), (n : Int) = j + d → j + d < 1000000000 → d < K → l.length = j + d → spec_l01Long.l0 K n x l j = some (strOfNums (l.take j ++ List.replicate d x)) := by
  intro d
  induction d with
  | zero =>
    intro j K l hn hj hK hl
    obtain ⟨K, rfl⟩ := succ_of hK
    simp only [spec_l01Long.l0]
    rw [if_neg (show ¬ (j : Int) < n by omega), List.take_of_length_le (by omega)]
    simp
  | succ d ih =>
    intro j K l hn hj hK hl
    obtain ⟨K, rfl⟩ := succ_of hK
    simp only [spec_l01Long.l0]
    rw [if_pos (show (j : Int) < n by omega), if_pos (show 0 ≤ (j : Int) by omega), if_pos (show (j : Int) < (l.length : Int) by omega), wr ((j : Int) + 1) (by omega) (by omega), show ((j : Int) + 1) = ((j + 1 : Nat) : Int) by omega, Int.toNat_natCast, ih (j + 1) K _ (by omega) (by omega) (by omega) (by simp; omega)]
    congr 2
    rw [List.take_set, List.replicate_succ]
    have : (l.take (j + 1)).set j x = l.take j ++ [x] := by
      rw [List.take_succ_eq_append_getElem (show j < l.length by omega), List.set_append_right _ _ (by simp; omega)]
      simp [show min j l.length = j by omega]
    rw [this]
    simp
theorem long_ok (n x : Int) (h0 : 0 ≤ n) (h1 : n < 1000000000) (K : Nat) (hK : n < K) : spec_l01Long.f K n x = some (strOfNums (List.replicate n.toNat x)) := by
  obtain ⟨m, rfl⟩ := Int.eq_ofNat_of_zero_le h0
  unfold spec_l01Long.f
  rw [if_pos h0, if_pos (by simp; omega)]
  have := long_l0 m x m 0 K (List.replicate m 0) (by omega) (by omega) (by omega) (by simp)
  simpa using this

-- snippet drawlong


-- snippet textcore
theorem text_l0 (b : List Int) (hb : b.length ≤ 1048576) (n : Int) : ∀ (d : Nat) (j : Nat) (acc : List Int) (i h : Int), (n : Int) ≤ j + d → j + d ≤ 5000 → acc.length + d ≤ 5000 → curOk b i → (∀ x ∈ acc, 0 ≤ x ∧ x < 256) → ∃ t i' h', t.size ≤ acc.length + d ∧ curOk b i' ∧ ∀ K, d < K → spec_l01Text.l0 K n acc j b i h = some (t, i', h') := by
  intro d
  induction d with
  | zero =>
    intro j acc i h hn hj hl hi hx
    refine ⟨strOfNums acc, i, h, by rw [str_size acc]; omega, hi, fun K hK => ?_⟩
    obtain ⟨K, rfl⟩ := succ_of hK
    simp only [spec_l01Text.l0]
    rw [if_neg (show ¬ (j : Int) < n by omega)]
  | succ d ih =>
    intro j acc i h hn hj hl hi hx
    by_cases c : (j : Int) < n
    · obtain ⟨x, i', h', e, l, u, c'⟩ := byte_ok b hb i h hi
      obtain ⟨t, i2, h2, ht, c2, et⟩ := ih (j + 1) (acc ++ [x % 256]) i' h' (by omega) (by omega) (by simp; omega) c' (by
        intro y hy
        rcases List.mem_append.mp hy with hy | hy
        · exact hx y hy
        · rw [List.mem_singleton] at hy; omega)
      refine ⟨t, i2, h2, by simp at ht; omega, c2, fun K hK => ?_⟩
      obtain ⟨K, rfl⟩ := succ_of hK
      simp only [spec_l01Text.l0]
      rw [if_pos c, e, Option.bind_some, if_pos (show acc.length < 140737488355328 by omega), wr ((j : Int) + 1) (by omega) (by omega), show ((j : Int) + 1) = ((j + 1 : Nat) : Int) by omega]
      exact et K (by omega)
    · refine ⟨strOfNums acc, i, h, by rw [str_size acc]; omega, hi, fun K hK => ?_⟩
      obtain ⟨K, rfl⟩ := succ_of hK
      simp only [spec_l01Text.l0]
      rw [if_neg c]
theorem text_ok (b : List Int) (hb : b.length ≤ 1048576) (i h n : Int) (hi : curOk b i) (hn : 0 ≤ n) : ∃ t i' h', t.size ≤ 5000 ∧ (t.size : Int) ≤ n ∧ curOk b i' ∧ ∀ K, 6000 ≤ K → spec_l01Text.f K b i h n = some (t, i', h') := by
  by_cases c : n > 5000
  · obtain ⟨t, i', h', ht, c', e⟩ := text_l0 b hb 5000 5000 0 [] i h (by omega) (by omega) (by simp) hi (by simp)
    refine ⟨t, i', h', by simpa using ht, by simp at ht; omega, c', fun K hK => ?_⟩
    obtain ⟨K, rfl⟩ : ∃ m, K = m + 1 := ⟨K - 1, by omega⟩
    unfold spec_l01Text.f
    rw [if_pos c]
    simp only [spec_l01Text.j0]
    exact e K (by omega)
  · obtain ⟨m, rfl⟩ := Int.eq_ofNat_of_zero_le hn
    obtain ⟨t, i', h', ht, c', e⟩ := text_l0 b hb m m 0 [] i h (by omega) (by omega) (by simp; omega) hi (by simp)
    refine ⟨t, i', h', by simp at ht; omega, by simp at ht; omega, c', fun K hK => ?_⟩
    obtain ⟨K, rfl⟩ : ∃ m, K = m + 1 := ⟨K - 1, by omega⟩
    unfold spec_l01Text.f
    rw [if_neg c]
    simp only [spec_l01Text.j0]
    exact e K (by omega)

-- snippet pick
theorem pick_ok (b : List Int) (hb : b.length ≤ 1048576) (i h : Int) (hi : curOk b i) (l : List Int) (hl : 0 < l.length) : ∃ x i' h', spec_l01PickInt.f b i h l = some (x, i', h') ∧ x ∈ l ∧ curOk b i' := by
  obtain ⟨x, i', h', e, l0, u, c⟩ := below_ok b hb i h (l.length : Int) hi (by omega)
  unfold spec_l01PickInt.f
  rw [e, Option.bind_some, if_pos l0, if_pos u]
  refine ⟨_, _, _, rfl, ?_, c⟩
  unfold rd
  rw [List.getD_eq_getElem?_getD, List.getElem?_eq_getElem (show x.toNat < l.length by omega), Option.getD_some]
  exact List.getElem_mem _

-- snippet once
theorem once_ok (b : List Int) (hb : b.length ≤ 1048576) (i h n : Int) (hi : curOk b i) (hn : 0 < n) : ∃ x i' h', spec_l01Once.f b i h n = some (x, i', h') ∧ curOk b i' := by
  obtain ⟨x, i', h', e, _, _, c⟩ := below_ok b hb i h n hi hn
  unfold spec_l01Once.f
  rw [e]
  exact ⟨_, _, _, rfl, c⟩

-- snippet spoilt
theorem spoilt_ok (b : List Int) (hb : b.length ≤ 1048576) (i h : Int) (hi : curOk b i) (s : ByteArray) (hs : s.size ≤ 1000000) : ∃ t i' h', t.size ≤ s.size + 1 ∧ curOk b i' ∧ ∀ K, 6001 ≤ K → spec_l02Spoilt.f K b i h s = some (t, i', h') := by
  have hj : ∀ (x : Bool) (i1 h1 : Int), curOk b i1 → ∃ t i' h', t.size ≤ s.size + 1 ∧ curOk b i' ∧ ∀ K, 6001 ≤ K → spec_l02Spoilt.j0 K s x b i1 h1 = some (t, i', h') := by
    intro x i1 h1 c1
    by_cases hx : x = true
    · by_cases h0 : (s.size : Int) > 0
      · obtain ⟨n, i2, h2, e2, l2, u2, c2⟩ := below_ok b hb i1 h1 (s.size : Int) c1 h0
        obtain ⟨t, i3, h3, s3, u3, c3, e3⟩ := text_ok b hb i2 h2 1 c2 (by decide)
        obtain ⟨m, rfl⟩ := Int.eq_ofNat_of_zero_le l2
        have z1 : (s.extract 0 m).size = m := by rw [ByteArray.size_extract]; omega
        have z2 : (s.extract (m + 1) s.size).size = s.size - (m + 1) := by rw [ByteArray.size_extract]; omega
        refine ⟨(s.extract 0 m ++ t) ++ s.extract (m + 1) s.size, i3, h3, by rw [ByteArray.size_append, ByteArray.size_append, z1, z2]; omega, c3, fun K hK => ?_⟩
        obtain ⟨K, rfl⟩ : ∃ m, K = m + 1 := ⟨K - 1, by omega⟩
        have hw : wrap64 ((m : Int) + 1) = ((m + 1 : Nat) : Int) := by rw [wr ((m : Int) + 1) (by omega) (by omega)]; rfl
        simp only [spec_l02Spoilt.j0]
        rw [if_pos hx, if_pos h0, e2, Option.bind_some]
        simp only
        rw [if_pos (by omega), if_pos (by omega), e3 K (by omega), Option.bind_some]
        simp only
        rw [hw, Int.toNat_natCast, Int.toNat_natCast, if_pos (by omega), if_pos (by omega), if_pos (by omega), if_pos (by rw [ByteArray.size_append]; omega)]
      · refine ⟨s, i1, h1, by omega, c1, fun K hK => ?_⟩
        obtain ⟨K, rfl⟩ : ∃ m, K = m + 1 := ⟨K - 1, by omega⟩
        simp only [spec_l02Spoilt.j0]
        rw [if_pos hx, if_neg h0]
    · refine ⟨s, i1, h1, by omega, c1, fun K hK => ?_⟩
      obtain ⟨K, rfl⟩ : ∃ m, K = m + 1 := ⟨K - 1, by omega⟩
      simp only [spec_l02Spoilt.j0]
      rw [if_neg hx]
  obtain ⟨n, i1, h1, e1, l1, u1, c1⟩ := below_ok b hb i h 12 hi (by decide)
  by_cases n0 : n = 0
  · obtain ⟨t, i2, h2, s2, u2, c2, e2⟩ := text_ok b hb i1 h1 1 c1 (by decide)
    refine ⟨s ++ t, i2, h2, by rw [ByteArray.size_append]; omega, c2, fun K hK => ?_⟩
    unfold spec_l02Spoilt.f
    rw [e1, Option.bind_some]
    simp only
    rw [if_pos n0, e2 K (by omega), Option.bind_some]
    simp only
    rw [if_pos (by omega)]
  · by_cases n1 : n = 1
    · obtain ⟨x, i2, h2, e2, l2, u2, c2⟩ := below_ok b hb i1 h1 ((s.size : Int) + 1) c1 (by omega)
      refine ⟨s.extract 0 x.toNat, i2, h2, by rw [ByteArray.size_extract]; omega, c2, fun K hK => ?_⟩
      unfold spec_l02Spoilt.f
      rw [e1, Option.bind_some]
      simp only
      rw [if_neg n0, if_pos n1, wr ((s.size : Int) + 1) (by omega) (by omega), e2, Option.bind_some]
      simp only
      rw [if_pos (by omega), if_pos (by omega)]
    · by_cases n2 : n = 2
      · obtain ⟨t, i2, h2, s2, c2, e2⟩ := hj (n == 2) i1 h1 c1
        refine ⟨t, i2, h2, s2, c2, fun K hK => ?_⟩
        unfold spec_l02Spoilt.f
        rw [e1, Option.bind_some]
        simp only
        rw [if_neg n0, if_neg n1, if_pos n2]
        exact e2 K hK
      · obtain ⟨t, i2, h2, s2, c2, e2⟩ := hj (n == 3) i1 h1 c1
        refine ⟨t, i2, h2, s2, c2, fun K hK => ?_⟩
        unfold spec_l02Spoilt.f
        rw [e1, Option.bind_some]
        simp only
        rw [if_neg n0, if_neg n1, if_neg n2]
        exact e2 K hK

-- snippet places
theorem places_l0 (b : List Int) (hb : b.length ≤ 1048576) : ∀ (d : Nat) (acc : List Int) (i h : Int), acc.length + d = 12 → curOk b i → (∀ x ∈ acc, 0 ≤ x ∧ x < 10000) → ∃ p : List Int, p.length = 12 ∧ (∀ x ∈ p, 0 ≤ x ∧ x < 10000) ∧ ∀ K, d < K → spec_DrawPlaces.l0 K acc (acc.length : Int) b i h = some p := by
  intro d
  induction d with
  | zero =>
    intro acc i h hl hi hx
    refine ⟨acc, by omega, hx, fun K hK => ?_⟩
    obtain ⟨K, rfl⟩ := succ_of hK
    simp only [spec_DrawPlaces.l0]
    rw [if_neg (show ¬ (acc.length : Int) < 12 by omega)]
  | succ d ih =>
    intro acc i h hl hi hx
    obtain ⟨x, i', h', e, l, u, c⟩ := below_ok b hb i h 10000 hi (by decide)
    obtain ⟨p, hp, hpx, ep⟩ := ih (acc ++ [x]) i' h' (by simp; omega) c (by
      intro y hy
      rcases List.mem_append.mp hy with hy | hy
      · exact hx y hy
      · rw [List.mem_singleton] at hy; omega)
    refine ⟨p, hp, hpx, fun K hK => ?_⟩
    obtain ⟨K, rfl⟩ := succ_of hK
    simp only [spec_DrawPlaces.l0]
    rw [if_pos (show (acc.length : Int) < 12 by omega), e, Option.bind_some, if_pos (show acc.length < 17592186044416 by omega), wr ((acc.length : Int) + 1) (by omega) (by omega)]
    have := ep K (by omega)
    rw [List.length_append, List.length_singleton] at this
    exact this
theorem places_ok (b : List Int) (hb : b.length ≤ 1048576) : ∃ p : List Int, p.length = 12 ∧ (∀ x ∈ p, 0 ≤ x ∧ x < 10000) ∧ ∀ K, 5000 ≤ K → spec_DrawPlaces.f K b = some p := by
  obtain ⟨h, e⟩ := new_ok b hb
  obtain ⟨x, i, h', e2, _, _, c⟩ := byte_ok b hb 0 h ⟨by omega, by omega⟩
  obtain ⟨p, hp, hx, e3⟩ := places_l0 b hb 12 [] i h' rfl c (by simp)
  refine ⟨p, hp, hx, fun K hK => ?_⟩
  unfold spec_DrawPlaces.f
  rw [e K (by omega), Option.bind_some]
  simp only
  rw [e2, Option.bind_some]
  exact e3 K (by omega)

-- snippet turned
theorem turn_size (s : ByteArray) (p0 p1 : Int) (h : 0 < s.size) : (Sha.turnText s p0 p1).size = s.size := by
  unfold Sha.turnText
  rw [if_neg (by omega), strOfNums_size, List.length_set, Sha.bys_len]
theorem turn_ne (s : ByteArray) (p0 p1 : Int) (h : 0 < s.size) (h0 : 0 ≤ p0) (h1 : 0 ≤ p1) : Sha.turnText s p0 p1 ≠ s := by
  intro e
  unfold Sha.turnText at e
  rw [if_neg (by omega)] at e
  have q0 : 0 ≤ Int.tmod p0 s.size := Int.tmod_nonneg _ h0
  have q1 : Int.tmod p0 s.size < s.size := Int.tmod_lt_of_pos _ (by omega)
  obtain ⟨j, hj⟩ := Int.eq_ofNat_of_zero_le q0
  rw [hj] at e q1
  rw [Int.toNat_natCast] at e
  have m0 : 0 ≤ Int.tmod p1 255 := Int.tmod_nonneg _ h1
  have m1 : Int.tmod p1 255 < 255 := Int.tmod_lt_of_pos _ (by decide)
  have hm : wrap64 (1 + Int.tmod p1 255) % 256 = 1 + Int.tmod p1 255 := by unfold wrap64; omega
  rw [hm] at e
  obtain ⟨m, hmm⟩ : ∃ m, 1 + Int.tmod p1 255 = m := ⟨_, rfl⟩
  rw [hmm] at e
  have hb := Kec.byt_bys s j
  have hmr : 0 ≤ m ∧ m < 256 := by omega
  have hby : Kec.Byt ((Sha.bys s).set j (Go.bits .xor .u8 ((Sha.bys s).getD j 0) m)) := Kec.byt_set (Kec.byt_bys s) (Kec.x8_rg hb hmr) j
  have e2 := congrArg Sha.bys e
  rw [Kec.bys_str2 _ hby] at e2
  have e3 := congrArg (fun l => l.getD j 0) e2
  have hjl : j < (Sha.bys s).length := by rw [Sha.bys_len]; omega
  rw [List.getD_eq_getElem?_getD, List.getElem?_set_self hjl, Option.getD_some, Kec.x8_eq hb hmr] at e3
  have hx : ((Sha.bys s).getD j 0).toNat ^^^ m.toNat = ((Sha.bys s).getD j 0).toNat := by omega
  have hz : m.toNat = 0 := by
    have := congrArg (fun z => ((Sha.bys s).getD j 0).toNat ^^^ z) hx
    rw [← Nat.xor_assoc, Nat.xor_self, Nat.zero_xor] at this
    exact this
  omega

theorem draw_ok (l0 : List Int) (big : ¬ (l0.length : Int) > 1048576) : ∃ s : ByteArray, s.size ≤ 1000000 ∧ spec_DrawPermute.f 6200 l0 = some s := by
  obtain ⟨h0, e0⟩ := new_ok l0 (by omega)
  obtain ⟨x, i1, h1, e1, c1⟩ := once_ok l0 (by omega) 0 h0 12 ⟨by omega, by omega⟩ (by decide)
  by_cases hx : x = true
  · obtain ⟨n, i2, h2, e2, m2, c2⟩ := pick_ok l0 (by omega) i1 h1 c1 [0, 199, 201] (by decide)
    have hn : 0 ≤ n ∧ n ≤ 201 := by
      simp only [List.mem_cons, List.not_mem_nil, or_false] at m2
      omega
    obtain ⟨z, i3, h3, e3, l3, u3, c3⟩ := below_ok l0 (by omega) i2 h2 256 c2 (by decide)
    have lz : (strOfNums (List.replicate n.toNat (z % 256))).size = n.toNat := by rw [strOfNums_size, List.length_replicate]
    obtain ⟨t, i4, h4, s4, c4, e4⟩ := spoilt_ok l0 (by omega) i3 h3 c3 (strOfNums (List.replicate n.toNat (z % 256))) (by omega)
    refine ⟨t, by omega, ?_⟩
    unfold spec_DrawPermute.f
    rw [e0 6200 (by omega), Option.bind_some]
    simp only
    rw [e1, Option.bind_some]
    simp only
    rw [if_pos hx, e2, Option.bind_some]
    simp only
    rw [e3, Option.bind_some]
    simp only
    rw [long_ok n _ hn.1 (by omega) 6200 (by omega), Option.bind_some, e4 6200 (by omega), Option.bind_some]
  · obtain ⟨z, i3, h3, e3, l3, u3, c3⟩ := below_ok l0 (by omega) i1 h1 256 c1 (by decide)
    have lz : (strOfNums (List.replicate (200 : Int).toNat (z % 256))).size = 200 := by rw [strOfNums_size, List.length_replicate]; rfl
    obtain ⟨t, i4, h4, s4, c4, e4⟩ := spoilt_ok l0 (by omega) i3 h3 c3 (strOfNums (List.replicate (200 : Int).toNat (z % 256))) (by omega)
    refine ⟨t, by omega, ?_⟩
    unfold spec_DrawPermute.f
    rw [e0 6200 (by omega), Option.bind_some]
    simp only
    rw [e1, Option.bind_some]
    simp only
    rw [if_neg hx, e3, Option.bind_some]
    simp only
    rw [long_ok 200 _ (by decide) (by decide) 6200 (by decide), Option.bind_some, e4 6200 (by omega), Option.bind_some]
theorem FnPermutes : laws_FnPermutes.Pure := by
  intro l0 hl hl2 hx
  by_cases big : (l0.length : Int) > 1048576
  · refine ⟨0, ?_⟩
    unfold laws_FnPermutes.f laws_big.f
    rw [Option.bind_some, if_pos (decide_eq_true big)]
  · obtain ⟨s, hs, ed⟩ := draw_ok l0 big
    obtain ⟨p, pl, px, e2⟩ := places_ok l0 (by omega)
    have hp : ∀ i : Nat, i < 12 → 0 ≤ p.getD i 0 ∧ p.getD i 0 < 10000 := by
      intro i hi
      rw [List.getD_eq_getElem?_getD, List.getElem?_eq_getElem (show i < p.length by omega), Option.getD_some]
      exact px _ (List.getElem_mem _)
    refine ⟨6200, ?_⟩
    have hps := Kec.perm_size s
    unfold laws_FnPermutes.f laws_big.f
    rw [Option.bind_some, if_neg (by rw [decide_eq_true_eq]; exact big), ed, Option.bind_some]
    have hI : ∀ t : ByteArray, t.size ≤ 1000000000 → impl_Permute.f t = some (Kec.perm t) := by
      intro t ht
      unfold impl_Permute.f
      rw [if_pos ht]
    have hS : spec_Permute.f s = some (Kec.perm s) := by
      unfold spec_Permute.f
      rw [if_pos (by omega)]
    have hne : (((Kec.perm s).size : Int) != (s.size : Int)) = false := by rw [hps]; simp
    rw [hI s (by omega), Option.bind_some, hS, Option.bind_some, if_pos rfl, hne, show (6200 : Nat) = 6199 + 1 from rfl]
    simp only [laws_FnPermutes.j0]
    rw [if_neg (by decide)]
    by_cases h200 : (s.size : Int) = 200
    · have hsz := turn_size s (p.getD 0 0) (p.getD 1 0) (by omega)
      have hT : laws_turned.f s p = some (Sha.turnText s (p.getD 0 0) (p.getD 1 0)) := by
        unfold laws_turned.f
        rw [if_pos ⟨by omega, by omega, (hp 0 (by decide)).1⟩]
      rw [if_pos h200, e2 6199 (by omega), Option.bind_some, hT, Option.bind_some, hI _ (by omega), Option.bind_some]
      congr 1
      rw [bne_iff_ne]
      intro e
      have e3 : Kec.perm (Sha.turnText s (p.getD 0 0) (p.getD 1 0)) = Kec.perm s := by
        apply ByteArray.ext
        rw [ByteArray.toList_eq, ByteArray.toList_eq] at e
        exact Array.toList_inj.1 e
      exact turn_ne s _ _ (by omega) (hp 0 (by decide)).1 (hp 1 (by decide)).1 (Kec.perm_inj _ _ (by omega) (by omega) e3)
    · rw [if_neg h200]
      have : Kec.perm s = s := by unfold Kec.perm; rw [if_neg (by omega)]
      rw [this]
      simp

end Go.Proofs.Ytmocccmffmacdaa.Pure
