/- Of every drawn seed a stream gives what the sponge gives at once, in two parts too. No condition. -/
import Derived.Test.YtmocccmffmacdaaPFnSpongesx2
set_option linter.unusedVariables false
set_option linter.unusedSimpArgs false
namespace Go.Proofs.Ytmocccmffmacdaa.Pure
open Go.RowKit Go.Proofs.Ytmocccmffmacdaa.PFnSponges Go.Proofs.YtmocccmffmacdaaW.PrintWords Go.Proofs.YtmocccmffmacdaaW.PrintLast Go.Proofs.YtmocccmffmacdaaW.PrintMore

-- snippet plain
/-! bytes as numbers -/
def bl (s : ByteArray) : List Int := s.data.toList.map fun b => (b.toNat : Int)
theorem bl_len (s : ByteArray) : (bl s).length = s.size := by unfold bl; rw [List.length_map, Array.length_toList]; rfl
theorem map_u8_inj : ∀ {a b : List UInt8}, a.map (fun b => (b.toNat : Int)) = b.map (fun b => (b.toNat : Int)) → a = b
  | [], [], _ => rfl
  | [], _ :: _, h => by simp at h
  | _ :: _, [], h => by simp at h
  | x :: a, y :: b, h => by
    simp only [List.map_cons, List.cons.injEq] at h
    have e : x = y := UInt8.toNat_inj.mp (by omega)
    rw [e, map_u8_inj h.2]
theorem bl_inj {s t : ByteArray} (h : bl s = bl t) : s = t := by
  have := map_u8_inj h
  cases s; cases t
  simp only [ByteArray.mk.injEq] at *
  exact Array.toList_inj.mp this
theorem bl_eq {s t : ByteArray} : s = t ↔ bl s = bl t := ⟨fun h => by rw [h], bl_inj⟩
theorem toList_bl {s t : ByteArray} : s.toList = t.toList ↔ bl s = bl t := by
  rw [ByteArray.toList_eq, ByteArray.toList_eq]
  exact ⟨fun h => by unfold bl; rw [h], fun h => by rw [bl_inj h]⟩
theorem bl_range (s : ByteArray) : ∀ x ∈ bl s, 0 ≤ x ∧ x < 256 := by
  intro x hx
  simp only [bl, List.mem_map] at hx
  obtain ⟨b, _, rfl⟩ := hx
  have := b.toNat_lt
  omega
theorem bt_bl (s : ByteArray) (i : Int) : bt s i = (bl s).getD i.toNat 0 := by
  unfold bt bl
  split
  · rename_i h
    have h' : i.toNat < s.data.toList.length := by rw [Array.length_toList]; exact h
    rw [List.getD_eq_getElem?_getD, List.getElem?_map, List.getElem?_eq_getElem h']
    rfl
  · rename_i h
    have h' : s.data.toList.length ≤ i.toNat := by rw [Array.length_toList]; exact Nat.le_of_not_lt h
    rw [List.getD_eq_getElem?_getD, List.getElem?_map, List.getElem?_eq_none h']
    rfl
theorem bl_append (s t : ByteArray) : bl (s ++ t) = bl s ++ bl t := by simp [bl]
theorem bl_extract (s : ByteArray) (a b : Nat) : bl (s.extract a b) = ((bl s).drop a).take (b - a) := by
  simp [bl, List.map_take, List.map_drop]
theorem u8_ofNat (n : Int) (h : 0 ≤ n ∧ n < 256) : ((UInt8.ofNat n.toNat).toNat : Int) = n := by
  rw [UInt8.toNat_ofNat']
  omega
theorem bl_str (xs : List Int) (h : ∀ x ∈ xs, 0 ≤ x ∧ x < 256) : bl (strOfNums xs) = xs := by
  unfold bl
  rw [strOfNums_data, List.map_map]
  conv => rhs; rw [← List.map_id xs]
  exact List.map_congr_left fun x hx => u8_ofNat x (h x hx)
theorem str_bl (s : ByteArray) : strOfNums (bl s) = s := bl_inj (bl_str _ (bl_range s))
theorem str_size (xs : List Int) : (strOfNums xs).size = xs.length := strOfNums_size xs
theorem bl_nil : bl (⟨#[]⟩ : ByteArray) = [] := rfl
theorem bt_lo (s : ByteArray) (i : Int) : 0 ≤ bt s i := (bt_range s i).1
theorem bt_hi (s : ByteArray) (i : Int) : bt s i < 256 := by have := (bt_range s i).2; omega
theorem wr (n : Int) (h : -9223372036854775808 ≤ n) (h' : n ≤ 9223372036854775807) : wrap64 n = n := by unfold wrap64; omega
theorem wrn {z : Int} (n : Nat) (e : z = n) (h : n ≤ 9223372036854775807) : wrap64 z = n := by rw [e]; exact wr _ (by omega) (by omega)
theorem tdiv_pos (a b : Int) (h : 0 ≤ a) : Int.tdiv a b = a / b := Int.tdiv_eq_ediv_of_nonneg h
theorem tmod_pos (a b : Int) (h : 0 ≤ a) : Int.tmod a b = a % b := Int.tmod_eq_emod_of_nonneg h
theorem succ_of {k d : Nat} (h : d < k) : ∃ m, k = m + 1 := ⟨k - 1, by omega⟩
theorem drop_bt (s : ByteArray) (i : Nat) (h : i < s.size) : (bl s).drop i = bt s i :: (bl s).drop (i + 1) := by
  have h' : i < (bl s).length := by rw [bl_len]; exact h
  rw [List.drop_eq_getElem_cons h', bt_bl, Int.toNat_natCast, List.getD_eq_getElem?_getD, List.getElem?_eq_getElem h']
  rfl
theorem drop_end (s : ByteArray) (i : Nat) (h : s.size ≤ i) : (bl s).drop i = [] := List.drop_eq_nil_of_le (by rw [bl_len]; exact h)
theorem take_snoc_cons {α : Type} (p : List α) (b : α) (l : List α) : (p ++ b :: l).take (p.length + 1) = p ++ [b] := by
  rw [List.take_length_add_append]; simp
attribute [local irreducible] bt

-- snippet draw
/-! draws -/
theorem mask_range (x : Int) : 0 ≤ Go.bits .and .i64 x 255 ∧ Go.bits .and .i64 x 255 ≤ 255 := by
  unfold Go.bits
  have h : (BitVec.ofInt IntKind.i64.bits x &&& BitVec.ofInt IntKind.i64.bits 255).toNat ≤ 255 := by
    rw [BitVec.toNat_and]
    exact Nat.le_trans Nat.and_le_right (by decide)
  simp only [IntKind.wrap_i64]
  generalize (BitVec.ofInt IntKind.i64.bits x &&& BitVec.ofInt IntKind.i64.bits 255).toNat = n at h
  omega
def curOk (b : List Int) (i : Int) : Prop := 0 ≤ i ∧ i ≤ b.length
theorem byte_ok (b : List Int) (hb : b.length ≤ 1048576) (i h : Int) (hi : curOk b i) : ∃ x i' h', spec_l01Byte.f b i h = some (x, i', h') ∧ 0 ≤ x ∧ x ≤ 255 ∧ curOk b i' := by
  obtain ⟨h0, h1⟩ := hi
  unfold spec_l01Byte.f
  by_cases c : i < (b.length : Int)
  · rw [if_pos c, if_pos h0, wr (i + 1) (by omega) (by omega)]
    exact ⟨_, _, _, rfl, (mask_range _).1, (mask_range _).2, by unfold curOk; omega⟩
  · rw [if_neg c]
    exact ⟨_, _, _, rfl, (mask_range _).1, (mask_range _).2, ⟨h0, h1⟩⟩
theorem below_ok (b : List Int) (hb : b.length ≤ 1048576) (i h n : Int) (hi : curOk b i) (hn : 0 < n) : ∃ x i' h', spec_l01Below.f b i h n = some (x, i', h') ∧ 0 ≤ x ∧ x < n ∧ curOk b i' := by
  unfold spec_l01Below.f
  rw [if_neg (show ¬ n ≤ 0 by omega)]
  obtain ⟨x1, i1, h1, e1, l1, u1, c1⟩ := byte_ok b hb i h hi
  by_cases c : n ≤ 256
  · rw [if_pos c, e1, Option.bind_some, if_neg (show ¬ n = 0 by omega)]
    exact ⟨_, _, _, rfl, Int.tmod_nonneg _ l1, Int.tmod_lt_of_pos _ hn, c1⟩
  · obtain ⟨x2, i2, h2, e2, l2, u2, c2⟩ := byte_ok b hb i1 h1 c1
    obtain ⟨x3, i3, h3, e3, l3, u3, c3⟩ := byte_ok b hb i2 h2 c2
    obtain ⟨x4, i4, h4, e4, l4, u4, c4⟩ := byte_ok b hb i3 h3 c3
    rw [if_neg c, e1, Option.bind_some]
    simp only
    rw [e2, Option.bind_some]
    simp only
    rw [e3, Option.bind_some]
    simp only
    rw [e4, Option.bind_some]
    simp only
    rw [if_neg (show ¬ n = 0 by omega), wr (x1 * 16777216) (by omega) (by omega), wr (x2 * 65536) (by omega) (by omega), wr (x3 * 256) (by omega) (by omega), wr (x1 * 16777216 + x2 * 65536) (by omega) (by omega), wr (x1 * 16777216 + x2 * 65536 + x3 * 256) (by omega) (by omega), wr (x1 * 16777216 + x2 * 65536 + x3 * 256 + x4) (by omega) (by omega)]
    exact ⟨_, _, _, rfl, Int.tmod_nonneg _ (by omega), Int.tmod_lt_of_pos _ hn, c4⟩
theorem new_l0 (b : List Int) (hb : b.length ≤ 1048576) : ∀ (d : Nat) (i : Nat) (h : Int), i + d = 4000 → ∃ h', ∀ K, d < K → spec_l01New.l0 K b h i = some (b, 0, h') := by
  intro d
  induction d with
  | zero =>
    intro i h hi
    refine ⟨h, fun K hK => ?_⟩
    obtain ⟨K, rfl⟩ := succ_of hK
    simp only [spec_l01New.l0]
    by_cases c : (i : Int) < (b.length : Int)
    · rw [if_pos c, if_neg (show ¬ (i : Int) < 4000 by omega)]
    · rw [if_neg c]
  | succ d ih =>
    intro i h hi
    by_cases c : (i : Int) < (b.length : Int)
    · obtain ⟨h', e⟩ := ih (i + 1) (Go.bits .and .i64 (wrap64 ((wrap64 ((wrap64 (h * 131)) + (wrap64 (rd b i)))) + 7)) 1073741823) (by omega)
      refine ⟨h', fun K hK => ?_⟩
      obtain ⟨K, rfl⟩ := succ_of hK
      simp only [spec_l01New.l0]
      rw [if_pos c, if_pos (show (i : Int) < 4000 by omega), if_pos (show 0 ≤ (i : Int) by omega), wr ((i : Int) + 1) (by omega) (by omega), show ((i : Int) + 1) = ((i + 1 : Nat) : Int) by omega]
      exact e K (by omega)
    · refine ⟨h, fun K hK => ?_⟩
      obtain ⟨K, rfl⟩ := succ_of hK
      simp only [spec_l01New.l0]
      rw [if_neg c]
theorem new_ok (b : List Int) (hb : b.length ≤ 1048576) : ∃ h', ∀ K, 4001 ≤ K → spec_l01New.f K b = some (b, 0, h') := by
  obtain ⟨h', e⟩ := new_l0 b hb 4000 0 (wrap64 (27401 + (b.length : Int))) (by omega)
  exact ⟨h', fun K hK => e K (by omega)⟩

-- snippet long
theorem long_l0 (n x : Int) : ∀ (d j K : Nat) (l : List Int), (n : Int) = j + d → j + d < 1000000000 → d < K → l.length = j + d → spec_l01Long.l0 K n x l j = some (strOfNums (l.take j ++ List.replicate d x)) := by
  intro d
  induction d with
  | zero =>
    intro j K l hn hj hK hl
    obtain ⟨K, rfl⟩ := succ_of hK
    simp only [spec_l01Long.l0]
    rw [if_neg (show ¬ (j : Int) < n by omega), List.take_of_length_le (by omega)]
    simp
  | succ d ih =>
    intro j K l hn hj hK hl
    obtain ⟨K, rfl⟩ := succ_of hK
    simp only [spec_l01Long.l0]
    rw [if_pos (show (j : Int) < n by omega), if_pos (show 0 ≤ (j : Int) by omega), if_pos (show (j : Int) < (l.length : Int) by omega), wr ((j : Int) + 1) (by omega) (by omega), show ((j : Int) + 1) = ((j + 1 : Nat) : Int) by omega, Int.toNat_natCast, ih (j + 1) K _ (by omega) (by omega) (by omega) (by simp; omega)]
    congr 2
    rw [List.take_set, List.replicate_succ]
    have : (l.take (j + 1)).set j x = l.take j ++ [x] := by
      rw [List.take_succ_eq_append_getElem (show j < l.length by omega), List.set_append_right _ _ (by simp; omega)]
      simp [show min j l.length = j by omega]
    rw [this]
    simp
theorem long_ok (n x : Int) (h0 : 0 ≤ n) (h1 : n < 1000000000) (K : Nat) (hK : n < K) : spec_l01Long.f K n x = some (strOfNums (List.replicate n.toNat x)) := by
  obtain ⟨m, rfl⟩ := Int.eq_ofNat_of_zero_le h0
  unfold spec_l01Long.f
  rw [if_pos h0, if_pos (by simp; omega)]
  have := long_l0 m x m 0 K (List.replicate m 0) (by omega) (by omega) (by omega) (by simp)
  simpa using this

-- snippet drawlong


-- snippet textcore
theorem text_l0 (b : List Int) (hb : b.length ≤ 1048576) (n : Int) : ∀ (d : Nat) (j : Nat) (acc : List Int) (i h : Int), (n : Int) ≤ j + d → j + d ≤ 5000 → acc.length + d ≤ 5000 → curOk b i → (∀ x ∈ acc, 0 ≤ x ∧ x < 256) → ∃ t i' h', t.size ≤ acc.length + d ∧ curOk b i' ∧ ∀ K, d < K → spec_l01Text.l0 K n acc j b i h = some (t, i', h') := by
  intro d
  induction d with
  | zero =>
    intro j acc i h hn hj hl hi hx
    refine ⟨strOfNums acc, i, h, by rw [str_size acc]; omega, hi, fun K hK => ?_⟩
    obtain ⟨K, rfl⟩ := succ_of hK
    simp only [spec_l01Text.l0]
    rw [if_neg (show ¬ (j : Int) < n by omega)]
  | succ d ih =>
    intro j acc i h hn hj hl hi hx
    by_cases c : (j : Int) < n
    · obtain ⟨x, i', h', e, l, u, c'⟩ := byte_ok b hb i h hi
      obtain ⟨t, i2, h2, ht, c2, et⟩ := ih (j + 1) (acc ++ [x % 256]) i' h' (by omega) (by omega) (by simp; omega) c' (by
        intro y hy
        rcases List.mem_append.mp hy with hy | hy
        · exact hx y hy
        · rw [List.mem_singleton] at hy; omega)
      refine ⟨t, i2, h2, by simp at ht; omega, c2, fun K hK => ?_⟩
      obtain ⟨K, rfl⟩ := succ_of hK
      simp only [spec_l01Text.l0]
      rw [if_pos c, e, Option.bind_some, if_pos (show acc.length < 140737488355328 by omega), wr ((j : Int) + 1) (by omega) (by omega), show ((j : Int) + 1) = ((j + 1 : Nat) : Int) by omega]
      exact et K (by omega)
    · refine ⟨strOfNums acc, i, h, by rw [str_size acc]; omega, hi, fun K hK => ?_⟩
      obtain ⟨K, rfl⟩ := succ_of hK
      simp only [spec_l01Text.l0]
      rw [if_neg c]
theorem text_ok (b : List Int) (hb : b.length ≤ 1048576) (i h n : Int) (hi : curOk b i) (hn : 0 ≤ n) : ∃ t i' h', t.size ≤ 5000 ∧ (t.size : Int) ≤ n ∧ curOk b i' ∧ ∀ K, 6000 ≤ K → spec_l01Text.f K b i h n = some (t, i', h') := by
  by_cases c : n > 5000
  · obtain ⟨t, i', h', ht, c', e⟩ := text_l0 b hb 5000 5000 0 [] i h (by omega) (by omega) (by simp) hi (by simp)
    refine ⟨t, i', h', by simpa using ht, by simp at ht; omega, c', fun K hK => ?_⟩
    obtain ⟨K, rfl⟩ : ∃ m, K = m + 1 := ⟨K - 1, by omega⟩
    unfold spec_l01Text.f
    rw [if_pos c]
    simp only [spec_l01Text.j0]
    exact e K (by omega)
  · obtain ⟨m, rfl⟩ := Int.eq_ofNat_of_zero_le hn
    obtain ⟨t, i', h', ht, c', e⟩ := text_l0 b hb m m 0 [] i h (by omega) (by omega) (by simp; omega) hi (by simp)
    refine ⟨t, i', h', by simp at ht; omega, by simp at ht; omega, c', fun K hK => ?_⟩
    obtain ⟨K, rfl⟩ : ∃ m, K = m + 1 := ⟨K - 1, by omega⟩
    unfold spec_l01Text.f
    rw [if_neg c]
    simp only [spec_l01Text.j0]
    exact e K (by omega)

-- snippet pick
theorem pick_ok (b : List Int) (hb : b.length ≤ 1048576) (i h : Int) (hi : curOk b i) (l : List Int) (hl : 0 < l.length) : ∃ x i' h', spec_l01PickInt.f b i h l = some (x, i', h') ∧ x ∈ l ∧ curOk b i' := by
  obtain ⟨x, i', h', e, l0, u, c⟩ := below_ok b hb i h (l.length : Int) hi (by omega)
  unfold spec_l01PickInt.f
  rw [e, Option.bind_some, if_pos l0, if_pos u]
  refine ⟨_, _, _, rfl, ?_, c⟩
  unfold rd
  rw [List.getD_eq_getElem?_getD, List.getElem?_eq_getElem (show x.toNat < l.length by omega), Option.getD_some]
  exact List.getElem_mem _

-- snippet l07text
theorem l07_ok (b : List Int) (hb : b.length ≤ 1048576) (i h : Int) (hi : curOk b i) : ∃ t i' h', t.size ≤ 6000 ∧ curOk b i' ∧ ∀ K, 6000 ≤ K → spec_l07Text.f K b i h = some (t, i', h') := by
  obtain ⟨n, i1, h1, e1, m1, c1⟩ := pick_ok b hb i h hi [0, 3, 130, 131, 132, 133, 163, 164, 165, 166, 300] (by decide)
  have hn : 0 ≤ n ∧ n ≤ 300 := by
    simp only [List.mem_cons, List.not_mem_nil, or_false] at m1
    omega
  obtain ⟨m, i2, h2, e2, l2, u2, c2⟩ := below_ok b hb i1 h1 6 c1 (by decide)
  obtain ⟨t, i3, h3, s3, _, c3, e3⟩ := text_ok b hb i2 h2 m c2 l2
  obtain ⟨z, i4, h4, e4, l4, u4, c4⟩ := below_ok b hb i3 h3 20 c3 (by decide)
  have lz : (strOfNums (List.replicate n.toNat ((wrap64 (65 + z)) % 256))).size ≤ 300 := by rw [strOfNums_size, List.length_replicate]; omega
  refine ⟨t ++ strOfNums (List.replicate n.toNat ((wrap64 (65 + z)) % 256)), i4, h4, by rw [ByteArray.size_append]; omega, c4, fun K hK => ?_⟩
  unfold spec_l07Text.f
  rw [e1, Option.bind_some]
  simp only
  rw [e2, Option.bind_some]
  simp only
  rw [e3 K hK, Option.bind_some]
  simp only
  rw [e4, Option.bind_some]
  simp only
  rw [long_ok n _ hn.1 (by omega) K (by omega), Option.bind_some, if_pos (by omega)]

-- snippet places
theorem places_l0 (b : List Int) (hb : b.length ≤ 1048576) : ∀ (d : Nat) (acc : List Int) (i h : Int), acc.length + d = 12 → curOk b i → (∀ x ∈ acc, 0 ≤ x ∧ x < 10000) → ∃ p : List Int, p.length = 12 ∧ (∀ x ∈ p, 0 ≤ x ∧ x < 10000) ∧ ∀ K, d < K → spec_DrawPlaces.l0 K acc (acc.length : Int) b i h = some p := by
  intro d
  induction d with
  | zero =>
    intro acc i h hl hi hx
    refine ⟨acc, by omega, hx, fun K hK => ?_⟩
    obtain ⟨K, rfl⟩ := succ_of hK
    simp only [spec_DrawPlaces.l0]
    rw [if_neg (show ¬ (acc.length : Int) < 12 by omega)]
  | succ d ih =>
    intro acc i h hl hi hx
    obtain ⟨x, i', h', e, l, u, c⟩ := below_ok b hb i h 10000 hi (by decide)
    obtain ⟨p, hp, hpx, ep⟩ := ih (acc ++ [x]) i' h' (by simp; omega) c (by
      intro y hy
      rcases List.mem_append.mp hy with hy | hy
      · exact hx y hy
      · rw [List.mem_singleton] at hy; omega)
    refine ⟨p, hp, hpx, fun K hK => ?_⟩
    obtain ⟨K, rfl⟩ := succ_of hK
    simp only [spec_DrawPlaces.l0]
    rw [if_pos (show (acc.length : Int) < 12 by omega), e, Option.bind_some, if_pos (show acc.length < 17592186044416 by omega), wr ((acc.length : Int) + 1) (by omega) (by omega)]
    have := ep K (by omega)
    rw [List.length_append, List.length_singleton] at this
    exact this
theorem places_ok (b : List Int) (hb : b.length ≤ 1048576) : ∃ p : List Int, p.length = 12 ∧ (∀ x ∈ p, 0 ≤ x ∧ x < 10000) ∧ ∀ K, 5000 ≤ K → spec_DrawPlaces.f K b = some p := by
  obtain ⟨h, e⟩ := new_ok b hb
  obtain ⟨x, i, h', e2, _, _, c⟩ := byte_ok b hb 0 h ⟨by omega, by omega⟩
  obtain ⟨p, hp, hx, e3⟩ := places_l0 b hb 12 [] i h' rfl c (by simp)
  refine ⟨p, hp, hx, fun K hK => ?_⟩
  unfold spec_DrawPlaces.f
  rw [e K (by omega), Option.bind_some]
  simp only
  rw [e2, Option.bind_some]
  exact e3 K (by omega)

-- snippet stream
open Kec in
theorem skTo_shift (n : Nat) (x : SK) (h : x.out.size < n) : ∀ i, skTo n x (i + 1) = skTo n (skStep n x) i
  | 0 => by
    show (if x.out.size < n then skStep n x else x) = skStep n x
    rw [if_pos h]
  | i + 1 => by
    show (if (skTo n x (i + 1)).out.size < n then skStep n (skTo n x (i + 1)) else skTo n x (i + 1)) = (if (skTo n (skStep n x) i).out.size < n then skStep n (skTo n (skStep n x) i) else skTo n (skStep n x) i)
    rw [skTo_shift n x h i]
theorem skTo_stay (n : Nat) (x : Kec.SK) (h : ¬ x.out.size < n) (i : Nat) : Kec.skTo n x i = x := by
  have := Kec.skTo_end n x 0 h i
  rw [Nat.zero_add] at this
  exact this
def kOf (n o a : Nat) : Nat := if 168 - a > n - o then n - o else 168 - a
theorem kOf_le (n o a : Nat) (ho : o ≤ n) (ha : a ≤ 168) : a + kOf n o a ≤ 168 ∧ o + kOf n o a ≤ n := by
  unfold kOf
  split <;> omega
theorem kOf_min (n o a : Nat) (ho : o ≤ n) (hn : n ≤ 4000) (ha : a ≤ 168) : mn (wrap64 ((n : Int) - (o : Int))) (wrap64 (168 - (a : Int))) = (kOf n o a : Int) := by
  have w1 : wrap64 ((n : Int) - (o : Int)) = ((n - o : Nat) : Int) := by unfold wrap64; omega
  have w2 : wrap64 (168 - (a : Int)) = ((168 - a : Nat) : Int) := by unfold wrap64; omega
  rw [w1, w2]
  clear w1 w2
  unfold mn kOf
  split <;> split <;> omega
theorem kOf_min0 (n o : Nat) (ho : o ≤ n) (hn : n ≤ 4000) : mn (wrap64 ((n : Int) - (o : Int))) 168 = (kOf n o 0 : Int) := by
  have := kOf_min n o 0 ho hn (by decide)
  rw [show wrap64 (168 - ((0 : Nat) : Int)) = 168 by unfold wrap64; omega] at this
  exact this
theorem w_small (k : Nat) (h : k ≤ 1000) : wrap64 (k : Int) = (k : Int) := by unfold wrap64; omega
theorem w_sum (a k : Nat) (h : a + k ≤ 1000) : wrap64 ((a : Int) + (k : Int)) = ((a + k : Nat) : Int) := by rw [← Int.natCast_add]; exact w_small _ h
theorem le_cast {a b : Nat} (h : a ≤ b) : (a : Int) ≤ (b : Int) := Int.ofNat_le.2 h
theorem step_eq (n : Nat) (x : Kec.SK) : Kec.skStep n x = (if x.at_ = 168 then ⟨Kec.perm x.st, 0 + kOf n x.out.size 0, x.out ++ (Kec.perm x.st).extract 0 (0 + kOf n x.out.size 0)⟩ else ⟨x.st, x.at_ + kOf n x.out.size x.at_, x.out ++ x.st.extract x.at_ (x.at_ + kOf n x.out.size x.at_)⟩) := by
  unfold Kec.skStep
  by_cases h : x.at_ = 168
  · rw [if_pos h, if_pos h]; rfl
  · rw [if_neg h, if_neg h]; rfl
theorem ex_size (s : ByteArray) (a k : Nat) (hs : s.size = 200) (h : a + k ≤ 168) : (s.extract a (a + k)).size = k := by
  rw [ByteArray.size_extract, hs]
  omega
open Kec in
theorem take_end (n K : Nat) (x : SK) (h : ¬ x.out.size < n) : impl_StreamTake.l0 (K + 1) (n : Int) x.out x.st (x.at_ : Int) = some (x.st, (x.at_ : Int), x.out) := by
  simp only [impl_StreamTake.l0]
  rw [if_neg (by omega)]
open Kec in
theorem take_step (n K : Nat) (hn : n ≤ 4000) (x : SK) (hok : SkOk x) (h : x.out.size < n) : impl_StreamTake.l0 (K + 1) (n : Int) x.out x.st (x.at_ : Int) = impl_StreamTake.l0 K (n : Int) (skStep n x).out (skStep n x).st ((skStep n x).at_ : Int) := by
  obtain ⟨hs, ha⟩ := hok
  have hlt : (x.out.size : Int) < (n : Int) := Int.ofNat_lt.2 h
  have ho : x.out.size ≤ n := Nat.le_of_lt h
  have h0 := kOf_le n x.out.size 0 ho (by decide)
  have h1 := kOf_le n x.out.size x.at_ ho ha
  have m0 := kOf_min0 n x.out.size ho hn
  have m1 := kOf_min n x.out.size x.at_ ho hn ha
  simp only [impl_StreamTake.l0]
  rw [if_pos hlt, step_eq]
  by_cases h168 : x.at_ = 168
  · have hi : (x.at_ : Int) = 168 := by rw [h168]; rfl
    have hp : (perm x.st).size = 200 := by rw [perm_size, hs]
    generalize kOf n x.out.size 0 = k at m0 h0 ⊢
    have hz := ex_size (perm x.st) 0 k hp h0.1
    rw [Nat.zero_add] at hz
    have hk2 : (k : Int) ≤ ((perm x.st).size : Int) := by rw [hp]; exact le_cast (by omega)
    have hsum : x.out.size + ((perm x.st).extract 0 k).size ≤ 9223372036854775807 := by rw [hz]; omega
    have hP : impl_Permute.f x.st = some (perm x.st) := by
      unfold impl_Permute.f
      rw [if_pos (by rw [hs]; decide)]
    rw [if_pos hi, hP, Option.bind_some, m0, w_small k (by omega), if_pos (Int.natCast_nonneg k), if_pos hk2, Int.toNat_natCast, if_pos hsum, if_pos h168]
    simp only [Nat.zero_add]
  · have hi : ¬ (x.at_ : Int) = 168 := by omega
    generalize kOf n x.out.size x.at_ = k at m1 h1 ⊢
    have hz := ex_size x.st x.at_ k hs h1.1
    have hw := w_sum x.at_ k (by omega)
    have hk1 : (x.at_ : Int) ≤ ((x.at_ + k : Nat) : Int) := le_cast (by omega)
    have hk2 : ((x.at_ + k : Nat) : Int) ≤ (x.st.size : Int) := le_cast (by omega)
    have hsum : x.out.size + (x.st.extract x.at_ (x.at_ + k)).size ≤ 9223372036854775807 := by rw [hz]; omega
    rw [if_neg hi, if_pos (Int.natCast_nonneg _), m1, hw, if_pos hk1, if_pos hk2, Int.toNat_natCast, Int.toNat_natCast, if_pos hsum, if_neg h168]
open Kec in
theorem take_l0 (n : Nat) (hn : n ≤ 4000) : ∀ (d K : Nat) (x : SK), SkOk x → x.out.size ≤ n → n - x.out.size ≤ d → d < K → impl_StreamTake.l0 K (n : Int) x.out x.st (x.at_ : Int) = some ((skTo n x d).st, ((skTo n x d).at_ : Int), (skTo n x d).out) := by
  intro d
  induction d with
  | zero =>
    intro K x hok hx hd hK
    obtain ⟨K, rfl⟩ := succ_of hK
    exact take_end n K x (by omega)
  | succ d ih =>
    intro K x hok hx hd hK
    obtain ⟨K, rfl⟩ := succ_of hK
    by_cases hlt : x.out.size < n
    · obtain ⟨b1, b2, b3⟩ := step_ok n x hok hlt
      rw [take_step n K hn x hok hlt, skTo_shift n x hlt d]
      exact ih K (skStep n x) b1 b3 (by omega) (by omega)
    · rw [skTo_stay n x hlt (d + 1)]
      exact take_end n K x hlt
open Kec in
theorem take_f (st : ByteArray) (a n : Int) (K : Nat) (hK : 4010 ≤ K) : impl_StreamTake.f K st a n = some (sTake st a n) := by
  obtain ⟨K, rfl⟩ : ∃ m, K = m + 1 := ⟨K - 1, by omega⟩
  unfold impl_StreamTake.f impl_in.f
  by_cases h : sOk st a n = true
  · have h2 := h
    unfold sOk at h2
    simp only [decide_eq_true_eq] at h2
    obtain ⟨h3, h4, h5, h6, h7⟩ := h2
    obtain ⟨m, rfl⟩ := Int.eq_ofNat_of_zero_le h3
    obtain ⟨b, rfl⟩ := Int.eq_ofNat_of_zero_le h6
    rw [if_pos h3, Option.bind_some, if_pos (decide_eq_true h4), if_pos (by omega), if_pos h6, Option.bind_some, decide_eq_true h7]
    simp only [impl_StreamTake.j0]
    have := take_l0 m (by omega) (m + 1) K ⟨st, b, ⟨#[]⟩⟩ ⟨h5, by show b ≤ 168; omega⟩ (Nat.zero_le _) (by show m - 0 ≤ m + 1; omega) (by omega)
    unfold sTake
    rw [if_pos h]
    simpa using this
  · have e : sTake st a n = (st, a, ⟨#[]⟩) := by unfold sTake; rw [if_neg h]
    have h' : ¬ (0 ≤ n ∧ n ≤ 4000 ∧ st.size = 200 ∧ 0 ≤ a ∧ a ≤ 168) := by
      unfold sOk at h
      simpa using h
    rw [e]
    by_cases h1 : n ≥ 0
    · rw [if_pos h1, Option.bind_some]
      by_cases h2 : n ≤ 4000
      · rw [if_pos (decide_eq_true h2)]
        by_cases h3 : (st.size : Int) = 200
        · rw [if_pos h3]
          by_cases h4 : a ≥ 0
          · rw [if_pos h4, Option.bind_some, decide_eq_false (show ¬ a ≤ 168 from fun h5 => h' ⟨h1, h2, by omega, h4, h5⟩)]
            simp [impl_StreamTake.j0]
          · rw [if_neg h4, Option.bind_some]
            simp [impl_StreamTake.j0]
        · rw [if_neg h3]
          simp [impl_StreamTake.j0]
      · rw [if_neg (by simp [h2])]
        simp [impl_StreamTake.j0]
    · rw [if_neg h1, Option.bind_some]
      simp [impl_StreamTake.j0]

-- snippet streamtwo
/-- k times permuted -/
def permN : Nat → ByteArray → ByteArray
  | 0, s => s
  | k + 1, s => permN k (Kec.perm s)
/-- the byte of number i of a stream -/
def sb (st : ByteArray) (a i : Nat) : Int := (Sha.bys (permN ((a + i) / 168) st)).getD ((a + i) % 168) 0
def sbs (st : ByteArray) (a n : Nat) : List Int := (List.range n).map (sb st a)
theorem sb_perm (st : ByteArray) (i : Nat) : sb (Kec.perm st) 0 i = sb st 168 i := by
  unfold sb
  rw [Nat.zero_add, show (168 + i) / 168 = i / 168 + 1 by omega, show (168 + i) % 168 = i % 168 by omega]
  rfl
theorem sb_on (st : ByteArray) (a k i : Nat) : sb st (a + k) i = sb st a (k + i) := by
  unfold sb
  rw [Nat.add_assoc]
theorem sbs_two (st : ByteArray) (a k m : Nat) : sbs st a (k + m) = sbs st a k ++ sbs st (a + k) m := by
  unfold sbs
  rw [List.range_add, List.map_append, List.map_map]
  congr 1
  refine List.map_congr_left fun i _ => ?_
  exact (sb_on st a k i).symm
theorem sbs_perm (st : ByteArray) (m : Nat) : sbs (Kec.perm st) 0 m = sbs st 168 m := by
  unfold sbs
  refine List.map_congr_left fun i _ => ?_
  exact sb_perm st i
theorem ex_sbs (st : ByteArray) (a k : Nat) (hs : st.size = 200) (h : a + k ≤ 168) : Sha.bys (st.extract a (a + k)) = sbs st a k := by
  have e : Sha.bys (st.extract a (a + k)) = ((Sha.bys st).drop a).take k := by
    unfold Sha.bys
    simp [List.map_take, List.map_drop]
  rw [e]
  unfold sbs
  apply List.ext_getElem (by rw [List.length_take, List.length_drop, Sha.bys_len, List.length_map, List.length_range]; omega)
  intro i h1 h2
  have hi : i < k := by rw [List.length_map, List.length_range] at h2; exact h2
  simp only [List.getElem_take, List.getElem_drop, List.getElem_map, List.getElem_range]
  unfold sb
  rw [show (a + i) / 168 = 0 by omega, show (a + i) % 168 = a + i by omega, List.getD_eq_getElem?_getD, List.getElem?_eq_getElem (by show a + i < (Sha.bys st).length; rw [Sha.bys_len]; omega)]
  rfl
open Kec in
/-- What is still to come, behind a step. -/
theorem step_sbs (n : Nat) (x : SK) (h : SkOk x) (hn : x.out.size < n) : ∃ k, (skStep n x).out.size = x.out.size + k ∧ Sha.bys (skStep n x).out = Sha.bys x.out ++ sbs x.st x.at_ k ∧ ∀ m, sbs (skStep n x).st (skStep n x).at_ m = sbs x.st (x.at_ + k) m := by
  obtain ⟨hs, ha⟩ := h
  unfold skStep
  by_cases h168 : x.at_ = 168
  · rw [if_pos h168]
    simp only
    obtain ⟨k, hk⟩ : ∃ k, (if 168 - 0 > n - x.out.size then n - x.out.size else 168 - 0) = k := ⟨_, rfl⟩
    have hkb : k ≤ 168 := by rw [← hk]; split <;> omega
    rw [hk]
    have hz : ((perm x.st).extract 0 (0 + k)).size = k := by rw [ByteArray.size_extract, perm_size]; omega
    refine ⟨k, by rw [ByteArray.size_append, hz], ?_, fun m => ?_⟩
    · rw [← bys_app2, ex_sbs _ 0 k (by rw [perm_size, hs]) (by omega), sbs_perm, h168]
    · have e1 := sbs_two (perm x.st) 0 k m
      have e2 := sbs_two x.st 168 k m
      rw [sbs_perm, sbs_perm, e2] at e1
      have := List.append_cancel_left e1
      rw [h168]
      exact this.symm
  · rw [if_neg h168]
    simp only
    obtain ⟨k, hk⟩ : ∃ k, (if 168 - x.at_ > n - x.out.size then n - x.out.size else 168 - x.at_) = k := ⟨_, rfl⟩
    have hkb : x.at_ + k ≤ 168 := by rw [← hk]; split <;> omega
    rw [hk]
    have hz : (x.st.extract x.at_ (x.at_ + k)).size = k := by rw [ByteArray.size_extract]; omega
    exact ⟨k, by rw [ByteArray.size_append, hz], by rw [← bys_app2, ex_sbs _ _ k hs hkb], fun m => rfl⟩
open Kec in
theorem to_sbs (n : Nat) : ∀ (d : Nat) (x : SK), SkOk x → x.out.size ≤ n → n - x.out.size ≤ d → SkOk (skTo n x d) ∧ Sha.bys (skTo n x d).out = Sha.bys x.out ++ sbs x.st x.at_ (n - x.out.size) ∧ ∀ m, sbs (skTo n x d).st (skTo n x d).at_ m = sbs x.st (x.at_ + (n - x.out.size)) m
  | 0, x, hok, hx, hd => by
    rw [show n - x.out.size = 0 by omega]
    refine ⟨hok, ?_, fun m => rfl⟩
    show Sha.bys x.out = _
    unfold sbs
    simp
  | d + 1, x, hok, hx, hd => by
    by_cases hlt : x.out.size < n
    · obtain ⟨b1, b2, b3⟩ := step_ok n x hok hlt
      obtain ⟨k, h1, h2, h3⟩ := step_sbs n x hok hlt
      obtain ⟨c1, c2, c3⟩ := to_sbs n d (skStep n x) b1 b3 (by omega)
      rw [skTo_shift n x hlt d]
      have hk : n - x.out.size = k + (n - (skStep n x).out.size) := by omega
      refine ⟨c1, ?_, fun m => ?_⟩
      · rw [c2, h2, List.append_assoc, hk, sbs_two]
        congr 2
        exact h3 _
      · rw [c3 m, hk]
        have e1 := sbs_two (skStep n x).st (skStep n x).at_ (n - (skStep n x).out.size) m
        rw [h3, h3, sbs_two x.st (x.at_ + k)] at e1
        have := List.append_cancel_left e1
        rw [← this, Nat.add_assoc]
    · rw [skTo_stay n x hlt (d + 1), show n - x.out.size = 0 by omega]
      refine ⟨hok, ?_, fun m => rfl⟩
      unfold sbs
      simp
open Kec in
theorem take_sbs (st : ByteArray) (a n : Nat) (hs : st.size = 200) (ha : a ≤ 168) (hn : n ≤ 4000) : ∃ y : SK, sTake st (a : Int) (n : Int) = (y.st, (y.at_ : Int), y.out) ∧ SkOk y ∧ Sha.bys y.out = sbs st a n ∧ ∀ m, sbs y.st y.at_ m = sbs st (a + n) m := by
  have hok : sOk st (a : Int) (n : Int) = true := by
    unfold sOk
    exact decide_eq_true ⟨by omega, by omega, hs, by omega, by omega⟩
  obtain ⟨c1, c2, c3⟩ := to_sbs n (n + 1) ⟨st, a, ⟨#[]⟩⟩ ⟨hs, ha⟩ (Nat.zero_le _) (by show n - 0 ≤ n + 1; omega)
  refine ⟨skTo n ⟨st, a, ⟨#[]⟩⟩ (n + 1), ?_, c1, c2, c3⟩
  unfold sTake
  simp only [hok, if_true, Int.toNat_natCast]
theorem sbs_len (st : ByteArray) (a n : Nat) : (sbs st a n).length = n := by unfold sbs; rw [List.length_map, List.length_range]
theorem ba_ext2 {a b : ByteArray} (h : Sha.bys a = Sha.bys b) : a = b := by rw [← Sha.str_bys a, ← Sha.str_bys b, h]

theorem wsum4 (n m : Nat) (h : (n : Int) < 400) (h2 : (m : Int) < 400) : wrap64 ((n : Int) + (m : Int)) = ((n + m : Nat) : Int) ∧ n + m ≤ 4000 ∧ n ≤ 4000 ∧ m ≤ 4000 ∧ (0 : Int) ≤ ((n + m : Nat) : Int) ∧ ((n + m : Nat) : Int) ≤ 4000 ∧ (0 : Int) ≤ (n : Int) ∧ (n : Int) ≤ 4000 := by
  refine ⟨?_, by omega, by omega, by omega, by omega, by omega, by omega, by omega⟩
  unfold wrap64
  omega
theorem FnSponges : laws_FnSponges.Pure := by
  intro l0 hl hl2 hx
  by_cases big : (l0.length : Int) > 1048576
  · refine ⟨0, ?_⟩
    unfold laws_FnSponges.f laws_big.f
    rw [Option.bind_some, if_pos (decide_eq_true big)]
  · obtain ⟨h0, e0⟩ := new_ok l0 (by omega)
    obtain ⟨s, i', h', hs, _, e1⟩ := l07_ok l0 (by omega) 0 h0 ⟨by omega, by omega⟩
    obtain ⟨p, pl, px, e2⟩ := places_ok l0 (by omega)
    have hp : ∀ i : Nat, i < 12 → 0 ≤ p.getD i 0 ∧ p.getD i 0 < 10000 := by
      intro i hi
      rw [List.getD_eq_getElem?_getD, List.getElem?_eq_getElem (show i < p.length by omega), Option.getD_some]
      exact px _ (List.getElem_mem _)
    obtain ⟨K, hK⟩ : ∃ K, 6100 ≤ K := ⟨6100, Nat.le_refl _⟩
    refine ⟨K, ?_⟩
    have ed : spec_DrawStreamNew.f K l0 = some s := by
      unfold spec_DrawStreamNew.f
      rw [e0 K (by omega), Option.bind_some]
      simp only
      rw [e1 K (by omega), Option.bind_some]
    have hz : (Kec.specAbsorbed s 31 (168 : Int).toNat).size = 200 := Kec.stx_size _
    obtain ⟨S, hS⟩ : ∃ S, Kec.specAbsorbed s 31 (168 : Int).toNat = S := ⟨_, rfl⟩
    rw [hS] at hz
    have hN : impl_StreamNew.f s = some (S, 0) := by
      unfold impl_StreamNew.f impl_absorbed.f
      rw [if_pos ⟨by omega, .inr rfl, by decide, by decide⟩, hS]
      rfl
    have hM : spec_StreamNew.f s = some (S, 0) := by
      unfold spec_StreamNew.f spec_l07Absorb.f
      rw [if_pos ⟨by omega, .inr rfl, by decide, by decide⟩, hS]
      rfl
    have q0 : rd p 0 = p.getD 0 0 := rfl
    have q1 : rd p 1 = p.getD 1 0 := rfl
    have n0 : 0 ≤ Int.tmod (rd p 0) 400 := Int.tmod_nonneg _ (by rw [q0]; exact (hp 0 (by decide)).1)
    have n1 : Int.tmod (rd p 0) 400 < 400 := Int.tmod_lt_of_pos _ (by decide)
    have m0 : 0 ≤ Int.tmod (rd p 1) 400 := Int.tmod_nonneg _ (by rw [q1]; exact (hp 1 (by decide)).1)
    have m1 : Int.tmod (rd p 1) 400 < 400 := Int.tmod_lt_of_pos _ (by decide)
    obtain ⟨n, hn⟩ := Int.eq_ofNat_of_zero_le n0
    obtain ⟨m, hm⟩ := Int.eq_ofNat_of_zero_le m0
    rw [hn] at n1
    rw [hm] at m1
    obtain ⟨hw, b1, b2, b3, b4, b5, b6, b7⟩ := wsum4 n m n1 m1
    have hp0 : (0 : Int) < (p.length : Int) := by rw [pl]; decide
    have hp1 : (1 : Int) < (p.length : Int) := by rw [pl]; decide
    clear n0 m0
    obtain ⟨y, y1, y2, y3, y4⟩ := take_sbs S 0 (n + m) hz (by decide) b1
    obtain ⟨x, x1, x2, x3, x4⟩ := take_sbs S 0 n hz (by decide) b2
    obtain ⟨z, z1, z2, z3, z4⟩ := take_sbs x.st x.at_ m x2.1 x2.2 b3
    have hlen : y.out.size = n + m := by rw [← Sha.bys_len, y3, sbs_len]
    have hxl : x.out.size = n := by rw [← Sha.bys_len, x3, sbs_len]
    have hzl : z.out.size = m := by rw [← Sha.bys_len, z3, sbs_len]
    have hjoin : x.out ++ z.out = y.out := by
      apply ba_ext2
      rw [← Kec.bys_app2, x3, z3, y3, x4, sbs_two]
    have hin : (0 : Int) ≤ ((n + m : Nat) : Int) ∧ ((n + m : Nat) : Int) ≤ 4000 := ⟨b4, b5⟩
    have hI : impl_ShakeOf.f K s ((n + m : Nat) : Int) = some (y.out, true) := by
      unfold impl_ShakeOf.f impl_in.f
      rw [if_pos hin.1, Option.bind_some, if_pos (decide_eq_true hin.2), hN, Option.bind_some]
      simp only
      rw [take_f _ _ _ K (by omega), show (0 : Int) = ((0 : Nat) : Int) from rfl, y1, Option.bind_some]
    have hSp : spec_ShakeOf.f s ((n + m : Nat) : Int) = some (y.out, true) := by
      unfold spec_ShakeOf.f spec_l01In.f
      rw [if_pos hin.1, Option.bind_some, if_pos (decide_eq_true hin.2), hM, Option.bind_some]
      simp only
      unfold spec_StreamTake.f
      rw [if_pos (by omega), show (0 : Int) = ((0 : Nat) : Int) from rfl, y1, Option.bind_some]
    unfold laws_FnSponges.f laws_big.f
    rw [Option.bind_some, if_neg (by rw [decide_eq_true_eq]; exact big), ed, Option.bind_some, e2 K (by omega), Option.bind_some, if_pos hp0, if_pos hp1, hn, hm, hw, hI, Option.bind_some, hN, Option.bind_some]
    simp only
    rw [take_f _ _ _ K (by omega), show (0 : Int) = ((0 : Nat) : Int) from rfl, x1, Option.bind_some]
    simp only
    rw [take_f _ _ _ K (by omega), z1, Option.bind_some, hSp, Option.bind_some]
    simp only
    have hz1 : x.out.size + z.out.size ≤ 9223372036854775807 := by rw [hxl, hzl]; exact Nat.le_trans b1 (by decide)
    have hz2 : (y.out.size : Int) = ((n + m : Nat) : Int) := by rw [hlen]
    rw [if_pos trivial, if_pos hz1, if_pos (by rw [hjoin]), if_pos hz2]
    exact congrArg some (beq_self_eq_true _)

end Go.Proofs.Ytmocccmffmacdaa.Pure
