/- Of every drawn key, text and places the law's lines on sums under a key and on expansions hold. Condition: the table of the rounds' numbers reads as the program's text lays it (tied to that text). -/
import Derived.Test.YtlddohppkcndjaaDoorPFnMacsx3
set_option linter.unusedVariables false
set_option linter.unusedSimpArgs false
namespace Go.Proofs.YtlddohppkcndjaaDoor.Pure
open Go.RowKit Go.Proofs.YtlddohppkcndjaaDoor.PFnMacs Go.Proofs.YtlddohppkcndjaaDoorW.PrintWords Go.Proofs.YtlddohppkcndjaaDoorW.PrintLast Go.Proofs.YtlddohppkcndjaaDoorW.PrintMore

-- snippet plain
/-! bytes as numbers -/
def bl (s : ByteArray) : List Int := s.data.toList.map fun b => (b.toNat : Int)
theorem str_size (xs : List Int) : (strOfNums xs).size = xs.length := strOfNums_size xs
theorem wr (n : Int) (h : -9223372036854775808 ≤ n) (h' : n ≤ 9223372036854775807) : wrap64 n = n := by unfold wrap64; omega
theorem succ_of {k d : Nat} (h : d < k) : ∃ m, k = m + 1 := ⟨k - 1, by omega⟩
theorem mask_range (x : Int) : 0 ≤ Go.bits .and .i64 x 255 ∧ Go.bits .and .i64 x 255 ≤ 255 := by
  unfold Go.bits
  have h : (BitVec.ofInt IntKind.i64.bits x &&& BitVec.ofInt IntKind.i64.bits 255).toNat ≤ 255 := by
    rw [BitVec.toNat_and]
    exact Nat.le_trans Nat.and_le_right (by decide)
  simp only [IntKind.wrap_i64]
  generalize (BitVec.ofInt IntKind.i64.bits x &&& BitVec.ofInt IntKind.i64.bits 255).toNat = n at h
  omega
def curOk (b : List Int) (i : Int) : Prop := 0 ≤ i ∧ i ≤ b.length
theorem byte_ok (b : List Int) (hb : b.length ≤ 1048576) (i h : Int) (hi : curOk b i) : ∃ x i' h', spec_l01Byte.f b i h = some (x, i', h') ∧ 0 ≤ x ∧ x ≤ 255 ∧ curOk b i' := by
  obtain ⟨h0, h1⟩ := hi
  unfold spec_l01Byte.f
  by_cases c : i < (b.length : Int)
  · rw [if_pos c, if_pos h0, wr (i + 1) (by omega) (by omega)]
    exact ⟨_, _, _, rfl, (mask_range _).1, (mask_range _).2, by unfold curOk; omega⟩
  · rw [if_neg c]
    exact ⟨_, _, _, rfl, (mask_range _).1, (mask_range _).2, ⟨h0, h1⟩⟩
theorem below_ok (b : List Int) (hb : b.length ≤ 1048576) (i h n : Int) (hi : curOk b i) (hn : 0 < n) : ∃ x i' h', spec_l01Below.f b i h n = some (x, i', h') ∧ 0 ≤ x ∧ x < n ∧ curOk b i' := by
  unfold spec_l01Below.f
  rw [if_neg (show ¬ n ≤ 0 by omega)]
  obtain ⟨x1, i1, h1, e1, l1, u1, c1⟩ := byte_ok b hb i h hi
  by_cases c : n ≤ 256
  · rw [if_pos c, e1, Option.bind_some, if_neg (show ¬ n = 0 by omega)]
    exact ⟨_, _, _, rfl, Int.tmod_nonneg _ l1, Int.tmod_lt_of_pos _ hn, c1⟩
  · obtain ⟨x2, i2, h2, e2, l2, u2, c2⟩ := byte_ok b hb i1 h1 c1
    obtain ⟨x3, i3, h3, e3, l3, u3, c3⟩ := byte_ok b hb i2 h2 c2
    obtain ⟨x4, i4, h4, e4, l4, u4, c4⟩ := byte_ok b hb i3 h3 c3
    rw [if_neg c, e1, Option.bind_some]
    simp only
    rw [e2, Option.bind_some]
    simp only
    rw [e3, Option.bind_some]
    simp only
    rw [e4, Option.bind_some]
    simp only
    rw [if_neg (show ¬ n = 0 by omega), wr (x1 * 16777216) (by omega) (by omega), wr (x2 * 65536) (by omega) (by omega), wr (x3 * 256) (by omega) (by omega), wr (x1 * 16777216 + x2 * 65536) (by omega) (by omega), wr (x1 * 16777216 + x2 * 65536 + x3 * 256) (by omega) (by omega), wr (x1 * 16777216 + x2 * 65536 + x3 * 256 + x4) (by omega) (by omega)]
    exact ⟨_, _, _, rfl, Int.tmod_nonneg _ (by omega), Int.tmod_lt_of_pos _ hn, c4⟩
theorem new_l0 (b : List Int) (hb : b.length ≤ 1048576) : ∀ (d : Nat) (i : Nat) (h : Int), i + d = 4000 → ∃ h', ∀ K, d < K → spec_l01New.l0 K b h i = some (b, 0, h') := by
  intro d
  induction d with
  | zero =>
    intro i h hi
    refine ⟨h, fun K hK => ?_⟩
    obtain ⟨K, rfl⟩ := succ_of hK
    simp only [spec_l01New.l0]
    by_cases c : (i : Int) < (b.length : Int)
    · rw [if_pos c, if_neg (show ¬ (i : Int) < 4000 by omega)]
    · rw [if_neg c]
  | succ d ih =>
    intro i h hi
    by_cases c : (i : Int) < (b.length : Int)
    · obtain ⟨h', e⟩ := ih (i + 1) (Go.bits .and .i64 (wrap64 ((wrap64 ((wrap64 (h * 131)) + (wrap64 (rd b i)))) + 7)) 1073741823) (by omega)
      refine ⟨h', fun K hK => ?_⟩
      obtain ⟨K, rfl⟩ := succ_of hK
      simp only [spec_l01New.l0]
      rw [if_pos c, if_pos (show (i : Int) < 4000 by omega), if_pos (show 0 ≤ (i : Int) by omega), wr ((i : Int) + 1) (by omega) (by omega), show ((i : Int) + 1) = ((i + 1 : Nat) : Int) by omega]
      exact e K (by omega)
    · refine ⟨h, fun K hK => ?_⟩
      obtain ⟨K, rfl⟩ := succ_of hK
      simp only [spec_l01New.l0]
      rw [if_neg c]
theorem new_ok (b : List Int) (hb : b.length ≤ 1048576) : ∃ h', ∀ K, 4001 ≤ K → spec_l01New.f K b = some (b, 0, h') := by
  obtain ⟨h', e⟩ := new_l0 b hb 4000 0 (wrap64 (27401 + (b.length : Int))) (by omega)
  exact ⟨h', fun K hK => e K (by omega)⟩

-- snippet long
theorem long_l0 (n x : Int) : ∀ (d j K : Nat) (l : List Int), (n : Int) = j + d → j + d < 1000000000 → d < K → l.length = j + d → spec_l01Long.l0 K n x l j = some (strOfNums (l.take j ++ List.replicate d x)) := by
  intro d
  induction d with
  | zero =>
    intro j K l hn hj hK hl
    obtain ⟨K, rfl⟩ := succ_of hK
    simp only [spec_l01Long.l0]
    rw [if_neg (show ¬ (j : Int) < n by omega), List.take_of_length_le (by omega)]
    simp
  | succ d ih =>
    intro j K l hn hj hK hl
    obtain ⟨K, rfl⟩ := succ_of hK
    simp only [spec_l01Long.l0]
    rw [if_pos (show (j : Int) < n by omega), if_pos (show 0 ≤ (j : Int) by omega), if_pos (show (j : Int) < (l.length : Int) by omega), wr ((j : Int) + 1) (by omega) (by omega), show ((j : Int) + 1) = ((j + 1 : Nat) : Int) by omega, Int.toNat_natCast, ih (j + 1) K _ (by omega) (by omega) (by omega) (by simp; omega)]
    congr 2
    rw [List.take_set, List.replicate_succ]
    have : (l.take (j + 1)).set j x = l.take j ++ [x] := by
      rw [List.take_succ_eq_append_getElem (show j < l.length by omega), List.set_append_right _ _ (by simp; omega)]
      simp [show min j l.length = j by omega]
    rw [this]
    simp
theorem long_ok (n x : Int) (h0 : 0 ≤ n) (h1 : n < 1000000000) (K : Nat) (hK : n < K) : spec_l01Long.f K n x = some (strOfNums (List.replicate n.toNat x)) := by
  obtain ⟨m, rfl⟩ := Int.eq_ofNat_of_zero_le h0
  unfold spec_l01Long.f
  rw [if_pos h0, if_pos (by simp; omega)]
  have := long_l0 m x m 0 K (List.replicate m 0) (by omega) (by omega) (by omega) (by simp)
  simpa using this

-- snippet drawlong


-- snippet textcore
theorem text_l0 (b : List Int) (hb : b.length ≤ 1048576) (n : Int) : ∀ (d : Nat) (j : Nat) (acc : List Int) (i h : Int), (n : Int) ≤ j + d → j + d ≤ 5000 → acc.length + d ≤ 5000 → curOk b i → (∀ x ∈ acc, 0 ≤ x ∧ x < 256) → ∃ t i' h', t.size ≤ acc.length + d ∧ curOk b i' ∧ ∀ K, d < K → spec_l01Text.l0 K n acc j b i h = some (t, i', h') := by
  intro d
  induction d with
  | zero =>
    intro j acc i h hn hj hl hi hx
    refine ⟨strOfNums acc, i, h, by rw [str_size acc]; omega, hi, fun K hK => ?_⟩
    obtain ⟨K, rfl⟩ := succ_of hK
    simp only [spec_l01Text.l0]
    rw [if_neg (show ¬ (j : Int) < n by omega)]
  | succ d ih =>
    intro j acc i h hn hj hl hi hx
    by_cases c : (j : Int) < n
    · obtain ⟨x, i', h', e, l, u, c'⟩ := byte_ok b hb i h hi
      obtain ⟨t, i2, h2, ht, c2, et⟩ := ih (j + 1) (acc ++ [x % 256]) i' h' (by omega) (by omega) (by simp; omega) c' (by
        intro y hy
        rcases List.mem_append.mp hy with hy | hy
        · exact hx y hy
        · rw [List.mem_singleton] at hy; omega)
      refine ⟨t, i2, h2, by simp at ht; omega, c2, fun K hK => ?_⟩
      obtain ⟨K, rfl⟩ := succ_of hK
      simp only [spec_l01Text.l0]
      rw [if_pos c, e, Option.bind_some, if_pos (show acc.length < 140737488355328 by omega), wr ((j : Int) + 1) (by omega) (by omega), show ((j : Int) + 1) = ((j + 1 : Nat) : Int) by omega]
      exact et K (by omega)
    · refine ⟨strOfNums acc, i, h, by rw [str_size acc]; omega, hi, fun K hK => ?_⟩
      obtain ⟨K, rfl⟩ := succ_of hK
      simp only [spec_l01Text.l0]
      rw [if_neg c]
theorem text_ok (b : List Int) (hb : b.length ≤ 1048576) (i h n : Int) (hi : curOk b i) (hn : 0 ≤ n) : ∃ t i' h', t.size ≤ 5000 ∧ (t.size : Int) ≤ n ∧ curOk b i' ∧ ∀ K, 6000 ≤ K → spec_l01Text.f K b i h n = some (t, i', h') := by
  by_cases c : n > 5000
  · obtain ⟨t, i', h', ht, c', e⟩ := text_l0 b hb 5000 5000 0 [] i h (by omega) (by omega) (by simp) hi (by simp)
    refine ⟨t, i', h', by simpa using ht, by simp at ht; omega, c', fun K hK => ?_⟩
    obtain ⟨K, rfl⟩ : ∃ m, K = m + 1 := ⟨K - 1, by omega⟩
    unfold spec_l01Text.f
    rw [if_pos c]
    simp only [spec_l01Text.j0]
    exact e K (by omega)
  · obtain ⟨m, rfl⟩ := Int.eq_ofNat_of_zero_le hn
    obtain ⟨t, i', h', ht, c', e⟩ := text_l0 b hb m m 0 [] i h (by omega) (by omega) (by simp; omega) hi (by simp)
    refine ⟨t, i', h', by simp at ht; omega, by simp at ht; omega, c', fun K hK => ?_⟩
    obtain ⟨K, rfl⟩ : ∃ m, K = m + 1 := ⟨K - 1, by omega⟩
    unfold spec_l01Text.f
    rw [if_neg c]
    simp only [spec_l01Text.j0]
    exact e K (by omega)

-- snippet l05text
theorem pick_ok (b : List Int) (hb : b.length ≤ 1048576) (i h : Int) (hi : curOk b i) (l : List Int) (hl : 0 < l.length) : ∃ x i' h', spec_l01PickInt.f b i h l = some (x, i', h') ∧ x ∈ l ∧ curOk b i' := by
  obtain ⟨x, i', h', e, l0, u, c⟩ := below_ok b hb i h (l.length : Int) hi (by omega)
  unfold spec_l01PickInt.f
  rw [e, Option.bind_some, if_pos l0, if_pos u]
  refine ⟨_, _, _, rfl, ?_, c⟩
  unfold rd
  rw [List.getD_eq_getElem?_getD, List.getElem?_eq_getElem (show x.toNat < l.length by omega), Option.getD_some]
  exact List.getElem_mem _
theorem l05_ok (b : List Int) (hb : b.length ≤ 1048576) (i h : Int) (hi : curOk b i) : ∃ t i' h', t.size ≤ 6000 ∧ curOk b i' ∧ ∀ K, 6000 ≤ K → spec_l05Text.f K b i h = some (t, i', h') := by
  obtain ⟨n, i1, h1, e1, m1, c1⟩ := pick_ok b hb i h hi [0, 3, 10, 54, 55, 56, 57, 63, 64, 65, 119, 120, 130] (by decide)
  have hn : 0 ≤ n ∧ n ≤ 130 := by
    simp only [List.mem_cons, List.not_mem_nil, or_false] at m1
    omega
  obtain ⟨m, i2, h2, e2, l2, u2, c2⟩ := below_ok b hb i1 h1 5 c1 (by decide)
  obtain ⟨t, i3, h3, s3, _, c3, e3⟩ := text_ok b hb i2 h2 m c2 l2
  obtain ⟨z, i4, h4, e4, l4, u4, c4⟩ := below_ok b hb i3 h3 20 c3 (by decide)
  have lz : (strOfNums (List.replicate n.toNat ((wrap64 (65 + z)) % 256))).size ≤ 130 := by rw [strOfNums_size, List.length_replicate]; omega
  refine ⟨t ++ strOfNums (List.replicate n.toNat ((wrap64 (65 + z)) % 256)), i4, h4, by rw [ByteArray.size_append]; omega, c4, fun K hK => ?_⟩
  unfold spec_l05Text.f
  rw [e1, Option.bind_some]
  simp only
  rw [e2, Option.bind_some]
  simp only
  rw [e3 K hK, Option.bind_some]
  simp only
  rw [e4, Option.bind_some]
  simp only
  rw [long_ok n _ hn.1 (by omega) K (by omega), Option.bind_some, if_pos (by omega)]

-- snippet places
theorem places_l0 (b : List Int) (hb : b.length ≤ 1048576) : ∀ (d : Nat) (acc : List Int) (i h : Int), acc.length + d = 12 → curOk b i → (∀ x ∈ acc, 0 ≤ x ∧ x < 10000) → ∃ p : List Int, p.length = 12 ∧ (∀ x ∈ p, 0 ≤ x ∧ x < 10000) ∧ ∀ K, d < K → spec_DrawPlaces.l0 K acc (acc.length : Int) b i h = some p := by
  intro d
  induction d with
  | zero =>
    intro acc i h hl hi hx
    refine ⟨acc, by omega, hx, fun K hK => ?_⟩
    obtain ⟨K, rfl⟩ := succ_of hK
    simp only [spec_DrawPlaces.l0]
    rw [if_neg (show ¬ (acc.length : Int) < 12 by omega)]
  | succ d ih =>
    intro acc i h hl hi hx
    obtain ⟨x, i', h', e, l, u, c⟩ := below_ok b hb i h 10000 hi (by decide)
    obtain ⟨p, hp, hpx, ep⟩ := ih (acc ++ [x]) i' h' (by simp; omega) c (by
      intro y hy
      rcases List.mem_append.mp hy with hy | hy
      · exact hx y hy
      · rw [List.mem_singleton] at hy; omega)
    refine ⟨p, hp, hpx, fun K hK => ?_⟩
    obtain ⟨K, rfl⟩ := succ_of hK
    simp only [spec_DrawPlaces.l0]
    rw [if_pos (show (acc.length : Int) < 12 by omega), e, Option.bind_some, if_pos (show acc.length < 17592186044416 by omega), wr ((acc.length : Int) + 1) (by omega) (by omega)]
    have := ep K (by omega)
    rw [List.length_append, List.length_singleton] at this
    exact this
theorem places_ok (b : List Int) (hb : b.length ≤ 1048576) : ∃ p : List Int, p.length = 12 ∧ (∀ x ∈ p, 0 ≤ x ∧ x < 10000) ∧ ∀ K, 5000 ≤ K → spec_DrawPlaces.f K b = some p := by
  obtain ⟨h, e⟩ := new_ok b hb
  obtain ⟨x, i, h', e2, _, _, c⟩ := byte_ok b hb 0 h ⟨by omega, by omega⟩
  obtain ⟨p, hp, hx, e3⟩ := places_l0 b hb 12 [] i h' rfl c (by simp)
  refine ⟨p, hp, hx, fun K hK => ?_⟩
  unfold spec_DrawPlaces.f
  rw [e K (by omega), Option.bind_some]
  simp only
  rw [e2, Option.bind_some]
  exact e3 K (by omega)

-- snippet expand
theorem expand_l0 (key info : ByteArray) (hk : key.size ≤ 100000000) (hi : info.size ≤ 100000000) (n : Nat) (hn : n ≤ 8160) : ∀ (d i K : Nat), i + d = (n + 31) / 32 → d < K → impl_Expand.l0 K key info (n : Int) (Sha.xpTo key info i).2 (Sha.xpTo key info i).1 ((i + 1 : Nat) : Int) = some ((Sha.xpTo key info ((n + 31) / 32)).2.extract 0 n, true) := by
  intro d
  induction d with
  | zero =>
    intro i K h hK
    obtain ⟨K, rfl⟩ := succ_of hK
    obtain ⟨s1, s2⟩ := Sha.xpTo_size key info i
    simp only [impl_Expand.l0]
    rw [if_neg (by omega), if_pos (by omega), if_pos (by omega), Int.toNat_natCast, ← h, Nat.add_zero]
  | succ d ih =>
    intro i K h hK
    obtain ⟨K, rfl⟩ := succ_of hK
    obtain ⟨s1, s2⟩ := Sha.xpTo_size key info i
    have ob : impl_oneByte.f ((i + 1 : Nat) : Int) = some (Sha.oneB (i + 1)) := by
      unfold impl_oneByte.f Sha.oneB
      congr 3
    have os := Sha.oneB_size (i + 1)
    have hm : impl_MacOf.f key (((Sha.xpTo key info i).1 ++ info) ++ Sha.oneB (i + 1)) = some (Sha.mac key (((Sha.xpTo key info i).1 ++ info) ++ Sha.oneB (i + 1))) := by
      unfold impl_MacOf.f
      rw [if_pos ⟨by omega, by rw [ByteArray.size_append, ByteArray.size_append]; omega⟩]
    have ms := Sha.mac_size key (((Sha.xpTo key info i).1 ++ info) ++ Sha.oneB (i + 1))
    have e := ih (i + 1) K (by omega) (by omega)
    simp only [impl_Expand.l0]
    rw [if_pos (by omega), if_pos (by omega), ob, Option.bind_some, if_pos (by rw [ByteArray.size_append]; omega), hm, Option.bind_some, if_pos (by omega), wr (((i + 1 : Nat) : Int) + 1) (by omega) (by omega)]
    exact e
theorem expand_f (key info : ByteArray) (hk : key.size ≤ 100000000) (hi : info.size ≤ 100000000) (n : Int) (K : Nat) (hK : 300 ≤ K) : impl_Expand.f K key info n = some (Sha.expand key info n) := by
  unfold impl_Expand.f impl_in.f Sha.expand
  by_cases h : 0 ≤ n ∧ n ≤ 8160
  · obtain ⟨m, rfl⟩ := Int.eq_ofNat_of_zero_le h.1
    rw [if_pos h.1, Option.bind_some, if_pos (decide_eq_true h.2), if_pos h, Int.toNat_natCast]
    exact expand_l0 key info hk hi m (by omega) ((m + 31) / 32) 0 K (by omega) (by omega)
  · rw [if_neg h]
    by_cases h1 : n ≥ 0
    · rw [if_pos h1, Option.bind_some, if_neg (by simp; omega)]
    · rw [if_neg h1, Option.bind_some]
      simp

-- snippet byt
def Byt (l : List Int) : Prop := ∀ i, 0 ≤ l.getD i 0 ∧ l.getD i 0 < 256
theorem bys_str2 (xs : List Int) (h : Byt xs) : Sha.bys (strOfNums xs) = xs := by
  unfold Sha.bys
  rw [strOfNums_data, List.map_map]
  conv => rhs; rw [← List.map_id xs]
  refine List.map_congr_left fun x hx => ?_
  obtain ⟨i, hi, rfl⟩ := List.mem_iff_getElem.1 hx
  have := h i
  rw [List.getD_eq_getElem?_getD, List.getElem?_eq_getElem hi, Option.getD_some] at this
  show ((UInt8.ofNat (xs[i]).toNat).toNat : Int) = xs[i]
  rw [UInt8.toNat_ofNat']
  omega
theorem bt_bys2 (s : ByteArray) (i : Nat) : bt s (i : Int) = (Sha.bys s).getD i 0 := by
  unfold bt Sha.bys
  rw [Int.toNat_natCast]
  split
  · rename_i h
    rw [List.getD_eq_getElem?_getD, List.getElem?_map, List.getElem?_eq_getElem (by rw [Array.length_toList]; exact h)]
    rfl
  · rename_i h
    rw [List.getD_eq_getElem?_getD, List.getElem?_map, List.getElem?_eq_none (by rw [Array.length_toList]; exact Nat.le_of_not_lt h)]
    rfl
theorem byt_bys (s : ByteArray) : Byt (Sha.bys s) := fun i => by
  have := bt_range s (i : Int)
  rw [← bt_bys2]
  omega
theorem byt_set {l : List Int} (h : Byt l) {x : Int} (hx : 0 ≤ x ∧ x < 256) (k : Nat) : Byt (l.set k x) := fun i => by
  rw [List.getD_eq_getElem?_getD, List.getElem?_set]
  split
  · split
    · exact hx
    · exact ⟨by decide, by decide⟩
  · rw [← List.getD_eq_getElem?_getD]; exact h i
theorem x8_eq {x y : Int} (hx : 0 ≤ x ∧ x < 256) (hy : 0 ≤ y ∧ y < 256) : Go.bits .xor .u8 x y = ((x.toNat ^^^ y.toNat : Nat) : Int) := Go.u8_xor x y hx.1 hx.2 hy.1 hy.2
theorem x8_rg {x y : Int} (hx : 0 ≤ x ∧ x < 256) (hy : 0 ≤ y ∧ y < 256) : 0 ≤ Go.bits .xor .u8 x y ∧ Go.bits .xor .u8 x y < 256 := by
  rw [x8_eq hx hy]
  have : x.toNat ^^^ y.toNat < 2 ^ 8 := Nat.xor_lt_two_pow (by omega) (by omega)
  omega

-- snippet turnede
theorem turn_ne (s : ByteArray) (p0 p1 : Int) (h : 0 < s.size) (h0 : 0 ≤ p0) (h1 : 0 ≤ p1) : Sha.turnText s p0 p1 ≠ s := by
  intro e
  unfold Sha.turnText at e
  rw [if_neg (by omega)] at e
  have q0 : 0 ≤ Int.tmod p0 s.size := Int.tmod_nonneg _ h0
  have q1 : Int.tmod p0 s.size < s.size := Int.tmod_lt_of_pos _ (by omega)
  obtain ⟨j, hj⟩ := Int.eq_ofNat_of_zero_le q0
  rw [hj] at e q1
  rw [Int.toNat_natCast] at e
  have m0 : 0 ≤ Int.tmod p1 255 := Int.tmod_nonneg _ h1
  have m1 : Int.tmod p1 255 < 255 := Int.tmod_lt_of_pos _ (by decide)
  have hm : wrap64 (1 + Int.tmod p1 255) % 256 = 1 + Int.tmod p1 255 := by unfold wrap64; omega
  rw [hm] at e
  obtain ⟨m, hmm⟩ : ∃ m, 1 + Int.tmod p1 255 = m := ⟨_, rfl⟩
  rw [hmm] at e
  have hb := byt_bys s j
  have hmr : 0 ≤ m ∧ m < 256 := by omega
  have hby : Byt ((Sha.bys s).set j (Go.bits .xor .u8 ((Sha.bys s).getD j 0) m)) := byt_set (byt_bys s) (x8_rg hb hmr) j
  have e2 := congrArg Sha.bys e
  rw [bys_str2 _ hby] at e2
  have e3 := congrArg (fun l => l.getD j 0) e2
  have hjl : j < (Sha.bys s).length := by rw [Sha.bys_len]; omega
  rw [List.getD_eq_getElem?_getD, List.getElem?_set_self hjl, Option.getD_some, x8_eq hb hmr] at e3
  have hx : ((Sha.bys s).getD j 0).toNat ^^^ m.toNat = ((Sha.bys s).getD j 0).toNat := by omega
  have hz : m.toNat = 0 := by
    have := congrArg (fun z => ((Sha.bys s).getD j 0).toNat ^^^ z) hx
    rw [← Nat.xor_assoc, Nat.xor_self, Nat.zero_xor] at this
    exact this
  omega

theorem l06_ok (b : List Int) (hb : b.length ≤ 1048576) (i h : Int) (hi : curOk b i) : ∃ t i' h', t.size ≤ 6000 ∧ curOk b i' ∧ ∀ K, 6000 ≤ K → spec_l06Key.f K b i h = some (t, i', h') := by
  obtain ⟨m, i1, h1, e1, l1, u1, c1⟩ := below_ok b hb i h 6 hi (by decide)
  obtain ⟨t, i2, h2, s2, _, c2, e2⟩ := text_ok b hb i1 h1 m c1 l1
  obtain ⟨n, i3, h3, e3, m3, c3⟩ := pick_ok b hb i2 h2 c2 [0, 0, 26, 58, 63, 64, 65, 80] (by decide)
  have hn : 0 ≤ n ∧ n ≤ 80 := by
    simp only [List.mem_cons, List.not_mem_nil, or_false] at m3
    omega
  have lz : (strOfNums (List.replicate n.toNat (7 : Int))).size ≤ 80 := by rw [strOfNums_size, List.length_replicate]; omega
  refine ⟨t ++ strOfNums (List.replicate n.toNat (7 : Int)), i3, h3, by rw [ByteArray.size_append]; omega, c3, fun K hK => ?_⟩
  unfold spec_l06Key.f
  rw [e1, Option.bind_some]
  simp only
  rw [e2 K hK, Option.bind_some]
  simp only
  rw [e3, Option.bind_some]
  simp only
  rw [long_ok n _ hn.1 (by omega) K (by omega), Option.bind_some, if_pos (by omega)]
theorem xp_pre (key info : ByteArray) (i : Nat) : ∀ d, ∃ r, Sha.bys (Sha.xpTo key info (i + d)).2 = Sha.bys (Sha.xpTo key info i).2 ++ r
  | 0 => ⟨[], by rw [Nat.add_zero, List.append_nil]⟩
  | d + 1 => by
    obtain ⟨r, hr⟩ := xp_pre key info i d
    refine ⟨r ++ Sha.bys (Sha.mac key (((Sha.xpTo key info (i + d)).1 ++ info) ++ Sha.oneB (i + d + 1))), ?_⟩
    show Sha.bys ((Sha.xpTo key info (i + d)).2 ++ Sha.mac _ _) = _
    rw [← Sha.bys_app2, hr, List.append_assoc]
    rfl
theorem bys_ex (s : ByteArray) (n : Nat) : Sha.bys (s.extract 0 n) = (Sha.bys s).take n := by
  unfold Sha.bys
  simp [List.map_take]
theorem ba_ext3 {a b : ByteArray} (h : Sha.bys a = Sha.bys b) : a = b := by rw [← Sha.str_bys a, ← Sha.str_bys b, h]
/-- A longer expansion begins with a shorter one. -/
theorem xp_begins (key info : ByteArray) (n m : Nat) : ((Sha.xpTo key info ((n + m + 31) / 32)).2.extract 0 (n + m)).extract 0 n = (Sha.xpTo key info ((n + 31) / 32)).2.extract 0 n := by
  obtain ⟨r, hr⟩ := xp_pre key info ((n + 31) / 32) ((n + m + 31) / 32 - (n + 31) / 32)
  rw [show (n + 31) / 32 + ((n + m + 31) / 32 - (n + 31) / 32) = (n + m + 31) / 32 by omega] at hr
  have hs := (Sha.xpTo_size key info ((n + 31) / 32)).2
  apply ba_ext3
  rw [bys_ex, bys_ex, bys_ex, hr, List.take_take, show min n (n + m) = n by omega, List.take_append_of_le_length (by rw [Sha.bys_len, hs]; omega)]
theorem key64_long (key : ByteArray) : Sha.key64 (Sha.key64 key) = Sha.key64 key := by
  have h : ∀ k : ByteArray, k.size ≤ 64 → Sha.key64 k = k := by
    intro k hk
    unfold Sha.key64
    rw [if_neg (by omega)]
  exact h _ (Sha.key64_size key)
theorem mac_long (key s : ByteArray) : Sha.mac (Sha.key64 key) s = Sha.mac key s := by
  unfold Sha.mac
  rw [key64_long]
theorem FnMacs : laws_FnMacs.Pure := by
  intro l0 hl hl2 hx
  by_cases big : (l0.length : Int) > 1048576
  · refine ⟨0, ?_⟩
    unfold laws_FnMacs.f laws_big.f
    rw [Option.bind_some, if_pos (decide_eq_true big)]
  · obtain ⟨h0, e0⟩ := new_ok l0 (by omega)
    obtain ⟨key, i1, h1, hk, c1, e1⟩ := l06_ok l0 (by omega) 0 h0 ⟨by omega, by omega⟩
    obtain ⟨s, i2, h2, hs, _, e2⟩ := l05_ok l0 (by omega) i1 h1 c1
    obtain ⟨p, pl, px, e3⟩ := places_ok l0 (by omega)
    have hp : ∀ i : Nat, i < 12 → 0 ≤ p.getD i 0 ∧ p.getD i 0 < 10000 := by
      intro i hi
      rw [List.getD_eq_getElem?_getD, List.getElem?_eq_getElem (show i < p.length by omega), Option.getD_some]
      exact px _ (List.getElem_mem _)
    refine ⟨6100, ?_⟩
    have ed : spec_DrawMacOf.f 6100 l0 = some (key, s) := by
      unfold spec_DrawMacOf.f
      rw [e0 6100 (by omega), Option.bind_some]
      simp only
      rw [e1 6100 (by omega), Option.bind_some]
      simp only
      rw [e2 6100 (by omega), Option.bind_some]
    have q0 : rd p 0 = p.getD 0 0 := rfl
    have q1 : rd p 1 = p.getD 1 0 := rfl
    have n0 : 0 ≤ Int.tmod (rd p 0) 90 := Int.tmod_nonneg _ (by rw [q0]; exact (hp 0 (by decide)).1)
    have n1 : Int.tmod (rd p 0) 90 < 90 := Int.tmod_lt_of_pos _ (by decide)
    have m0 : 0 ≤ Int.tmod (rd p 1) 90 := Int.tmod_nonneg _ (by rw [q1]; exact (hp 1 (by decide)).1)
    have m1 : Int.tmod (rd p 1) 90 < 90 := Int.tmod_lt_of_pos _ (by decide)
    obtain ⟨n, hn⟩ := Int.eq_ofNat_of_zero_le n0
    obtain ⟨m, hm⟩ := Int.eq_ofNat_of_zero_le m0
    rw [hn] at n1
    rw [hm] at m1
    have HW : Aside0 (wrap64 ((n : Int) + (m : Int)) = ((n + m : Nat) : Int)) := ⟨by rw [wr _ (by omega) (by omega)]; omega⟩
    have hmac : ∀ k : ByteArray, k.size ≤ 900000000 → impl_MacOf.f k s = some (Sha.mac k s) := by
      intro k hk
      unfold impl_MacOf.f
      rw [if_pos ⟨hk, by omega⟩]
    have hsm : spec_MacOf.f key s = some (Sha.mac key s) := by
      unfold spec_MacOf.f
      rw [if_pos ⟨by omega, by omega⟩]
    have hxa : Sha.expand key s (n : Int) = ((Sha.xpTo key s ((n + 31) / 32)).2.extract 0 n, true) := by
      unfold Sha.expand
      rw [if_pos ⟨by omega, by omega⟩, Int.toNat_natCast]
    have hxb : Sha.expand key s ((n + m : Nat) : Int) = ((Sha.xpTo key s ((n + m + 31) / 32)).2.extract 0 (n + m), true) := by
      unfold Sha.expand
      rw [if_pos ⟨by omega, by omega⟩, Int.toNat_natCast]
    have hxc : Sha.expand key s (-1) = (⟨#[]⟩, false) := by
      unfold Sha.expand
      rw [if_neg (by omega)]
    have sa := (Sha.xpTo_size key s ((n + 31) / 32)).2
    have sb := (Sha.xpTo_size key s ((n + m + 31) / 32)).2
    have za : ((Sha.xpTo key s ((n + 31) / 32)).2.extract 0 n).size = n := by rw [ByteArray.size_extract]; omega
    have zb : ((Sha.xpTo key s ((n + m + 31) / 32)).2.extract 0 (n + m)).size = n + m := by rw [ByteArray.size_extract]; omega
    have hbg := xp_begins key s n m
    obtain ⟨a, ha⟩ : ∃ a, (Sha.xpTo key s ((n + 31) / 32)).2.extract 0 n = a := ⟨_, rfl⟩
    obtain ⟨b, hb⟩ : ∃ b, (Sha.xpTo key s ((n + m + 31) / 32)).2.extract 0 (n + m) = b := ⟨_, rfl⟩
    rw [ha] at hxa za hbg
    rw [hb] at hxb zb hbg
    have hms := Sha.mac_size key s
    obtain ⟨M, hM⟩ : ∃ M, Sha.mac key s = M := ⟨_, rfl⟩
    rw [hM] at hms hsm
    have hbeg : laws_begins.f a b = some true := by
      unfold laws_begins.f
      rw [if_pos (by omega), if_pos (by omega), Int.toNat_natCast, za, hbg]
      simp
    have hT : laws_turned.f M p = some (Sha.turnText M (p.getD 0 0) (p.getD 1 0)) := by
      unfold laws_turned.f
      rw [if_pos ⟨by omega, by omega, (hp 0 (by decide)).1⟩]
    have hne : ¬ M.toList = (Sha.turnText M (p.getD 0 0) (p.getD 1 0)).toList := by
      intro e
      refine turn_ne M _ _ (by omega) (hp 0 (by decide)).1 (hp 1 (by decide)).1 ?_
      apply ByteArray.ext
      rw [ByteArray.toList_eq, ByteArray.toList_eq] at e
      exact (Array.toList_inj.1 e).symm
    have g1 : (0 : Int) < (p.length : Int) := by omega
    have g2 : (1 : Int) < (p.length : Int) := by omega
    have g3 : (M.size : Int) = 32 := by omega
    have g4 : (a.size : Int) = (n : Int) := by omega
    have hj : ∀ L : ByteArray, L.size ≤ 900000000 → Sha.mac L s = M → laws_FnMacs.j0 6100 l0 key s M L = some true := by
      intro L hL1 hL2
      have hML := hmac L hL1
      rw [hL2] at hML
      have ea := expand_f key s (by omega) (by omega) (n : Int) 6099 (by decide)
      have eb := expand_f key s (by omega) (by omega) ((n + m : Nat) : Int) 6099 (by decide)
      have ec := expand_f key s (by omega) (by omega) (-1) 6099 (by decide)
      rw [hxa] at ea
      rw [hxb] at eb
      rw [hxc] at ec
      have ep := e3 6099 (by decide)
      rw [show (6100 : Nat) = 6099 + 1 from rfl]
      simp only [laws_FnMacs.j0]
      rw [ep, Option.bind_some, if_pos g1, hn, ea, Option.bind_some, if_pos g2, hm, HW.out, eb, Option.bind_some, ec, Option.bind_some, if_pos g3, hsm, Option.bind_some, if_pos rfl, hML, Option.bind_some, if_pos rfl]
      simp only [if_true, Bool.false_eq_true, if_false]
      rw [if_pos g4, hbeg, Option.bind_some]
      simp only [if_true]
      unfold impl_SameMac.f
      rw [Option.bind_some, if_pos (by simp), hT, Option.bind_some, Option.bind_some]
      rw [beq_eq_false_iff_ne.mpr hne]
      rfl
    unfold laws_FnMacs.f laws_big.f
    rw [Option.bind_some, if_neg (by rw [decide_eq_true_eq]; exact big), ed, Option.bind_some]
    simp only
    rw [hmac key (by omega), hM, Option.bind_some]
    by_cases hk64 : (key.size : Int) > 64
    · have hdig : impl_DigestOf.f key = some (Sha.digest key) := by
        unfold impl_DigestOf.f
        rw [if_pos (by omega)]
      rw [if_pos hk64, hdig, Option.bind_some]
      have e64 : Sha.key64 key = Sha.digest key := by unfold Sha.key64; rw [if_pos (by omega)]
      have := Sha.digest_size key
      exact hj _ (by omega) (by rw [← e64, mac_long, hM])
    · rw [if_neg hk64]
      exact hj key (by omega) hM

end Go.Proofs.YtlddohppkcndjaaDoor.Pure
