/- Of every drawn pool the program takes what the reference takes; a new pool gives 20 times three bytes, no more, and again behind a feed. Condition: the table of the rounds' numbers reads as the program's text lays it (tied to that text). -/
import Derived.Test.YtlddohppkcndjaaDoorPFnPoolsx4
set_option linter.unusedVariables false
set_option linter.unusedSimpArgs false
namespace Go.Proofs.YtlddohppkcndjaaDoor.Pure
open Go.RowKit Go.Proofs.YtlddohppkcndjaaDoor.PFnPools Go.Proofs.YtlddohppkcndjaaDoorW.PrintWords Go.Proofs.YtlddohppkcndjaaDoorW.PrintLast Go.Proofs.YtlddohppkcndjaaDoorW.PrintMore

-- snippet plain
/-! bytes as numbers -/
def bl (s : ByteArray) : List Int := s.data.toList.map fun b => (b.toNat : Int)
theorem str_size (xs : List Int) : (strOfNums xs).size = xs.length := strOfNums_size xs
theorem wr (n : Int) (h : -9223372036854775808 ≤ n) (h' : n ≤ 9223372036854775807) : wrap64 n = n := by unfold wrap64; omega
theorem succ_of {k d : Nat} (h : d < k) : ∃ m, k = m + 1 := ⟨k - 1, by omega⟩
theorem mask_range (x : Int) : 0 ≤ Go.bits .and .i64 x 255 ∧ Go.bits .and .i64 x 255 ≤ 255 := by
  unfold Go.bits
  have h : (BitVec.ofInt IntKind.i64.bits x &&& BitVec.ofInt IntKind.i64.bits 255).toNat ≤ 255 := by
    rw [BitVec.toNat_and]
    exact Nat.le_trans Nat.and_le_right (by decide)
  simp only [IntKind.wrap_i64]
  generalize (BitVec.ofInt IntKind.i64.bits x &&& BitVec.ofInt IntKind.i64.bits 255).toNat = n at h
  omega
def curOk (b : List Int) (i : Int) : Prop := 0 ≤ i ∧ i ≤ b.length
theorem byte_ok (b : List Int) (hb : b.length ≤ 1048576) (i h : Int) (hi : curOk b i) : ∃ x i' h', spec_l01Byte.f b i h = some (x, i', h') ∧ 0 ≤ x ∧ x ≤ 255 ∧ curOk b i' := by
  obtain ⟨h0, h1⟩ := hi
  unfold spec_l01Byte.f
  by_cases c : i < (b.length : Int)
  · rw [if_pos c, if_pos h0, wr (i + 1) (by omega) (by omega)]
    exact ⟨_, _, _, rfl, (mask_range _).1, (mask_range _).2, by unfold curOk; omega⟩
  · rw [if_neg c]
    exact ⟨_, _, _, rfl, (mask_range _).1, (mask_range _).2, ⟨h0, h1⟩⟩
theorem below_ok (b : List Int) (hb : b.length ≤ 1048576) (i h n : Int) (hi : curOk b i) (hn : 0 < n) : ∃ x i' h', spec_l01Below.f b i h n = some (x, i', h') ∧ 0 ≤ x ∧ x < n ∧ curOk b i' := by
  unfold spec_l01Below.f
  rw [if_neg (show ¬ n ≤ 0 by omega)]
  obtain ⟨x1, i1, h1, e1, l1, u1, c1⟩ := byte_ok b hb i h hi
  by_cases c : n ≤ 256
  · rw [if_pos c, e1, Option.bind_some, if_neg (show ¬ n = 0 by omega)]
    exact ⟨_, _, _, rfl, Int.tmod_nonneg _ l1, Int.tmod_lt_of_pos _ hn, c1⟩
  · obtain ⟨x2, i2, h2, e2, l2, u2, c2⟩ := byte_ok b hb i1 h1 c1
    obtain ⟨x3, i3, h3, e3, l3, u3, c3⟩ := byte_ok b hb i2 h2 c2
    obtain ⟨x4, i4, h4, e4, l4, u4, c4⟩ := byte_ok b hb i3 h3 c3
    rw [if_neg c, e1, Option.bind_some]
    simp only
    rw [e2, Option.bind_some]
    simp only
    rw [e3, Option.bind_some]
    simp only
    rw [e4, Option.bind_some]
    simp only
    rw [if_neg (show ¬ n = 0 by omega), wr (x1 * 16777216) (by omega) (by omega), wr (x2 * 65536) (by omega) (by omega), wr (x3 * 256) (by omega) (by omega), wr (x1 * 16777216 + x2 * 65536) (by omega) (by omega), wr (x1 * 16777216 + x2 * 65536 + x3 * 256) (by omega) (by omega), wr (x1 * 16777216 + x2 * 65536 + x3 * 256 + x4) (by omega) (by omega)]
    exact ⟨_, _, _, rfl, Int.tmod_nonneg _ (by omega), Int.tmod_lt_of_pos _ hn, c4⟩
theorem new_l0 (b : List Int) (hb : b.length ≤ 1048576) : ∀ (d : Nat) (i : Nat) (h : Int), i + d = 4000 → ∃ h', ∀ K, d < K → spec_l01New.l0 K b h i = some (b, 0, h') := by
  intro d
  induction d with
  | zero =>
    intro i h hi
    refine ⟨h, fun K hK => ?_⟩
    obtain ⟨K, rfl⟩ := succ_of hK
    simp only [spec_l01New.l0]
    by_cases c : (i : Int) < (b.length : Int)
    · rw [if_pos c, if_neg (show ¬ (i : Int) < 4000 by omega)]
    · rw [if_neg c]
  | succ d ih =>
    intro i h hi
    by_cases c : (i : Int) < (b.length : Int)
    · obtain ⟨h', e⟩ := ih (i + 1) (Go.bits .and .i64 (wrap64 ((wrap64 ((wrap64 (h * 131)) + (wrap64 (rd b i)))) + 7)) 1073741823) (by omega)
      refine ⟨h', fun K hK => ?_⟩
      obtain ⟨K, rfl⟩ := succ_of hK
      simp only [spec_l01New.l0]
      rw [if_pos c, if_pos (show (i : Int) < 4000 by omega), if_pos (show 0 ≤ (i : Int) by omega), wr ((i : Int) + 1) (by omega) (by omega), show ((i : Int) + 1) = ((i + 1 : Nat) : Int) by omega]
      exact e K (by omega)
    · refine ⟨h, fun K hK => ?_⟩
      obtain ⟨K, rfl⟩ := succ_of hK
      simp only [spec_l01New.l0]
      rw [if_neg c]
theorem new_ok (b : List Int) (hb : b.length ≤ 1048576) : ∃ h', ∀ K, 4001 ≤ K → spec_l01New.f K b = some (b, 0, h') := by
  obtain ⟨h', e⟩ := new_l0 b hb 4000 0 (wrap64 (27401 + (b.length : Int))) (by omega)
  exact ⟨h', fun K hK => e K (by omega)⟩

-- snippet long
theorem long_l0 (n x : Int) : ∀ (d j K : Nat) (l : List Int), (n : Int) = j + d → j + d < 1000000000 → d < K → l.length = j + d → spec_l01Long.l0 K n x l j = some (strOfNums (l.take j ++ List.replicate d x)) := by
  intro d
  induction d with
  | zero =>
    intro j K l hn hj hK hl
    obtain ⟨K, rfl⟩ := succ_of hK
    simp only [spec_l01Long.l0]
    rw [if_neg (show ¬ (j : Int) < n by omega), List.take_of_length_le (by omega)]
    simp
  | succ d ih =>
    intro j K l hn hj hK hl
    obtain ⟨K, rfl⟩ := succ_of hK
    simp only [spec_l01Long.l0]
    rw [if_pos (show (j : Int) < n by omega), if_pos (show 0 ≤ (j : Int) by omega), if_pos (show (j : Int) < (l.length : Int) by omega), wr ((j : Int) + 1) (by omega) (by omega), show ((j : Int) + 1) = ((j + 1 : Nat) : Int) by omega, Int.toNat_natCast, ih (j + 1) K _ (by omega) (by omega) (by omega) (by simp; omega)]
    congr 2
    rw [List.take_set, List.replicate_succ]
    have : (l.take (j + 1)).set j x = l.take j ++ [x] := by
      rw [List.take_succ_eq_append_getElem (show j < l.length by omega), List.set_append_right _ _ (by simp; omega)]
      simp [show min j l.length = j by omega]
    rw [this]
    simp
theorem long_ok (n x : Int) (h0 : 0 ≤ n) (h1 : n < 1000000000) (K : Nat) (hK : n < K) : spec_l01Long.f K n x = some (strOfNums (List.replicate n.toNat x)) := by
  obtain ⟨m, rfl⟩ := Int.eq_ofNat_of_zero_le h0
  unfold spec_l01Long.f
  rw [if_pos h0, if_pos (by simp; omega)]
  have := long_l0 m x m 0 K (List.replicate m 0) (by omega) (by omega) (by omega) (by simp)
  simpa using this

-- snippet drawlong


-- snippet textcore
theorem text_l0 (b : List Int) (hb : b.length ≤ 1048576) (n : Int) : ∀ (d : Nat) (j : Nat) (acc : List Int) (i h : Int), (n : Int) ≤ j + d → j + d ≤ 5000 → acc.length + d ≤ 5000 → curOk b i → (∀ x ∈ acc, 0 ≤ x ∧ x < 256) → ∃ t i' h', t.size ≤ acc.length + d ∧ curOk b i' ∧ ∀ K, d < K → spec_l01Text.l0 K n acc j b i h = some (t, i', h') := by
  intro d
  induction d with
  | zero =>
    intro j acc i h hn hj hl hi hx
    refine ⟨strOfNums acc, i, h, by rw [str_size acc]; omega, hi, fun K hK => ?_⟩
    obtain ⟨K, rfl⟩ := succ_of hK
    simp only [spec_l01Text.l0]
    rw [if_neg (show ¬ (j : Int) < n by omega)]
  | succ d ih =>
    intro j acc i h hn hj hl hi hx
    by_cases c : (j : Int) < n
    · obtain ⟨x, i', h', e, l, u, c'⟩ := byte_ok b hb i h hi
      obtain ⟨t, i2, h2, ht, c2, et⟩ := ih (j + 1) (acc ++ [x % 256]) i' h' (by omega) (by omega) (by simp; omega) c' (by
        intro y hy
        rcases List.mem_append.mp hy with hy | hy
        · exact hx y hy
        · rw [List.mem_singleton] at hy; omega)
      refine ⟨t, i2, h2, by simp at ht; omega, c2, fun K hK => ?_⟩
      obtain ⟨K, rfl⟩ := succ_of hK
      simp only [spec_l01Text.l0]
      rw [if_pos c, e, Option.bind_some, if_pos (show acc.length < 140737488355328 by omega), wr ((j : Int) + 1) (by omega) (by omega), show ((j : Int) + 1) = ((j + 1 : Nat) : Int) by omega]
      exact et K (by omega)
    · refine ⟨strOfNums acc, i, h, by rw [str_size acc]; omega, hi, fun K hK => ?_⟩
      obtain ⟨K, rfl⟩ := succ_of hK
      simp only [spec_l01Text.l0]
      rw [if_neg c]
theorem text_ok (b : List Int) (hb : b.length ≤ 1048576) (i h n : Int) (hi : curOk b i) (hn : 0 ≤ n) : ∃ t i' h', t.size ≤ 5000 ∧ (t.size : Int) ≤ n ∧ curOk b i' ∧ ∀ K, 6000 ≤ K → spec_l01Text.f K b i h n = some (t, i', h') := by
  by_cases c : n > 5000
  · obtain ⟨t, i', h', ht, c', e⟩ := text_l0 b hb 5000 5000 0 [] i h (by omega) (by omega) (by simp) hi (by simp)
    refine ⟨t, i', h', by simpa using ht, by simp at ht; omega, c', fun K hK => ?_⟩
    obtain ⟨K, rfl⟩ : ∃ m, K = m + 1 := ⟨K - 1, by omega⟩
    unfold spec_l01Text.f
    rw [if_pos c]
    simp only [spec_l01Text.j0]
    exact e K (by omega)
  · obtain ⟨m, rfl⟩ := Int.eq_ofNat_of_zero_le hn
    obtain ⟨t, i', h', ht, c', e⟩ := text_l0 b hb m m 0 [] i h (by omega) (by omega) (by simp; omega) hi (by simp)
    refine ⟨t, i', h', by simp at ht; omega, by simp at ht; omega, c', fun K hK => ?_⟩
    obtain ⟨K, rfl⟩ : ∃ m, K = m + 1 := ⟨K - 1, by omega⟩
    unfold spec_l01Text.f
    rw [if_neg c]
    simp only [spec_l01Text.j0]
    exact e K (by omega)

-- snippet pick
theorem pick_ok (b : List Int) (hb : b.length ≤ 1048576) (i h : Int) (hi : curOk b i) (l : List Int) (hl : 0 < l.length) : ∃ x i' h', spec_l01PickInt.f b i h l = some (x, i', h') ∧ x ∈ l ∧ curOk b i' := by
  obtain ⟨x, i', h', e, l0, u, c⟩ := below_ok b hb i h (l.length : Int) hi (by omega)
  unfold spec_l01PickInt.f
  rw [e, Option.bind_some, if_pos l0, if_pos u]
  refine ⟨_, _, _, rfl, ?_, c⟩
  unfold rd
  rw [List.getD_eq_getElem?_getD, List.getElem?_eq_getElem (show x.toNat < l.length by omega), Option.getD_some]
  exact List.getElem_mem _

-- snippet poolmix
theorem nil_size (s : ByteArray) : s.toList = ([] : List UInt8) ↔ s.size = 0 := by
  rw [ByteArray.toList_eq]
  constructor
  · intro h
    show s.data.size = 0
    rw [← Array.length_toList, h]
    rfl
  · intro h
    apply List.eq_nil_of_length_eq_zero
    rw [Array.length_toList]
    exact h
theorem mac_ok (a b : ByteArray) (ha : a.size ≤ 900000000) (hb : b.size ≤ 900000000) : spec_MacOf.f a b = some (Sha.mac a b) := by
  unfold spec_MacOf.f
  rw [if_pos ⟨ha, hb⟩]
theorem mix_ok (k v s : ByteArray) (t : Int) (hk : k.size ≤ 100000000) (hv : v.size ≤ 100000000) (hs : s.size ≤ 100000000) : spec_l08Mix.f k v t s = some ((Sha.mixP k v s).1, (Sha.mixP k v s).2, t) := by
  have z0 : (⟨#[0]⟩ : ByteArray).size = 1 := rfl
  have z1 : (⟨#[1]⟩ : ByteArray).size = 1 := rfl
  have m1 := Sha.mac_size k ((v ++ ⟨#[0]⟩) ++ s)
  have m2 := Sha.mac_size (Sha.mac k ((v ++ ⟨#[0]⟩) ++ s)) v
  unfold spec_l08Mix.f Sha.mixP
  simp only
  rw [if_pos (by omega), if_pos (by rw [ByteArray.size_append, z0]; omega), mac_ok _ _ (by omega) (by rw [ByteArray.size_append, ByteArray.size_append, z0]; omega), Option.bind_some, mac_ok _ _ (by omega) (by omega), Option.bind_some]
  by_cases h : s.size = 0
  · rw [if_pos ((nil_size s).mpr h), if_pos h]
  · rw [if_neg (fun e => h ((nil_size s).mp e)), if_neg h, if_pos (by omega), if_pos (by rw [ByteArray.size_append, z1]; omega), mac_ok _ _ (by omega) (by rw [ByteArray.size_append, ByteArray.size_append, z1]; omega), Option.bind_some, mac_ok _ _ (by rw [Sha.mac_size]; omega) (by omega), Option.bind_some]

theorem o32_is : strOfNums (List.replicate 32 1) = Sha.o32 := by kernel_rfl
theorem z32_is : strOfNums (List.replicate 32 0) = Sha.z32 := rfl
theorem pok_ok (k v : ByteArray) (t : Int) : spec_PoolOk.f k v t = some (Sha.pOk k v t) := by
  unfold spec_PoolOk.f spec_l01In.f Sha.pOk
  by_cases h1 : k.size = 32
  · rw [if_pos (by omega)]
    by_cases h2 : v.size = 32
    · rw [if_pos (by omega)]
      by_cases h3 : 0 ≤ t <;> simp [h1, h2, h3]
    · rw [if_neg (by omega)]; simp [h2]
  · rw [if_neg (by omega)]; simp [h1]
theorem ipok_ok (k v : ByteArray) (t : Int) : impl_PoolOk.f k v t = some (Sha.pOk k v t) := by
  unfold impl_PoolOk.f impl_in.f Sha.pOk
  by_cases h1 : k.size = 32
  · rw [if_pos (by omega)]
    by_cases h2 : v.size = 32
    · rw [if_pos (by omega)]
      by_cases h3 : 0 ≤ t <;> simp [h1, h2, h3]
    · rw [if_neg (by omega)]; simp [h2]
  · rw [if_neg (by omega)]; simp [h1]
theorem feed_ok (k v : ByteArray) (t : Int) (s : ByteArray) (hk : k.size ≤ 100000000) (hv : v.size ≤ 100000000) (hs : s.size ≤ 100000000) : spec_PoolFeed.f k v t s = some (Sha.feedP k v t s) := by
  unfold spec_PoolFeed.f Sha.feedP
  rw [pok_ok, Option.bind_some]
  by_cases h : Sha.pOk k v t = true
  · rw [if_pos h, if_pos h, mix_ok _ _ _ _ hk hv hs, Option.bind_some]
  · rw [if_neg h, if_neg h]
theorem pok_iff (k v : ByteArray) (t : Int) : Sha.pOk k v t = true ↔ k.size = 32 ∧ v.size = 32 ∧ 0 ≤ t ∧ t ≤ 20 := by
  unfold Sha.pOk
  exact decide_eq_true_iff
/-- Bytes taken: a good pool and count, or nothing. -/
theorem take_cases (k v : ByteArray) (t n : Int) : (Sha.takeP k v t n = (⟨#[]⟩, ⟨#[]⟩, 0, ⟨#[]⟩, false) ∧ ¬ (k.size = 32 ∧ v.size = 32 ∧ 0 ≤ t ∧ t < 20 ∧ 0 ≤ n ∧ n ≤ 200)) ∨
    ∃ k' v' x, Sha.takeP k v t n = (k', v', t + 1, x, true) ∧ k'.size = 32 ∧ v'.size = 32 ∧ (x.size : Int) = n ∧ 0 ≤ t ∧ t < 20 := by
  unfold Sha.takeP
  by_cases h : Sha.tOk k v t n = true
  · rw [if_pos h]
    unfold Sha.tOk at h
    rw [Bool.and_eq_true, pok_iff, decide_eq_true_iff] at h
    obtain ⟨⟨h1, h2, h3, h4⟩, h5, h6, h7⟩ := h
    refine .inr ⟨_, _, _, rfl, (Sha.mixP_size _ _ _).1, (Sha.mixP_size _ _ _).2, ?_, h3, by omega⟩
    rw [ByteArray.size_extract, (Sha.tkTo_size k v h2 _).2]
    omega
  · rw [if_neg h]
    refine .inl ⟨rfl, fun ⟨h1, h2, h3, h4, h5, h6⟩ => h ?_⟩
    unfold Sha.tOk
    rw [Bool.and_eq_true, pok_iff, decide_eq_true_iff]
    exact ⟨⟨h1, h2, h3, by omega⟩, h5, h6, by omega⟩
theorem itake_f (k v : ByteArray) (t n : Int) : impl_PoolTake.f k v t n = some (Sha.takeP k v t n) := rfl
theorem stake_f (k v : ByteArray) (t n : Int) : spec_PoolTake.f k v t n = some (Sha.takeP k v t n) := rfl
theorem pool_l0 (b : List Int) (hb : b.length ≤ 1048576) : ∀ (d : Nat) (j : Nat) (i h : Int) (k v : ByteArray) (t : Int), j + d = 4 → curOk b i → ∃ k' v' t' i' h', curOk b i' ∧ ∀ K, d < K → spec_l08Pool.l0 K (j : Int) b i h k v t = some (k', v', t', i', h') := by
  intro d
  induction d with
  | zero =>
    intro j i h k v t hj c
    obtain ⟨x, i1, h1, e1, l1, u1, c1⟩ := below_ok b hb i h 4 c (by decide)
    obtain ⟨y, i2, h2, e2, l2, u2, c2⟩ := below_ok b hb i1 h1 12 c1 (by decide)
    obtain ⟨p, i3, h3, e3, m3, c3⟩ := pick_ok b hb i2 h2 c2 [(-1), 20, 21] (by decide)
    by_cases y0 : y = 0
    · refine ⟨k, v, p, i3, h3, c3, fun K hK => ?_⟩
      obtain ⟨K, rfl⟩ := succ_of hK
      simp only [spec_l08Pool.l0]
      rw [e1, Option.bind_some, if_neg (by omega), e2, Option.bind_some, if_pos y0, e3, Option.bind_some]
    · by_cases y1 : y = 1
      · refine ⟨(⟨#[115, 104, 111, 114, 116]⟩ : ByteArray), v, t, i2, h2, c2, fun K hK => ?_⟩
        obtain ⟨K, rfl⟩ := succ_of hK
        simp only [spec_l08Pool.l0]
        rw [e1, Option.bind_some, if_neg (by omega), e2, Option.bind_some, if_neg y0, if_pos y1]
      · refine ⟨k, v, t, i2, h2, c2, fun K hK => ?_⟩
        obtain ⟨K, rfl⟩ := succ_of hK
        simp only [spec_l08Pool.l0]
        rw [e1, Option.bind_some, if_neg (by omega), e2, Option.bind_some, if_neg y0, if_neg y1]
  | succ d ih =>
    intro j i h k v t hj c
    obtain ⟨x, i1, h1, e1, l1, u1, c1⟩ := below_ok b hb i h 4 c (by decide)
    by_cases hx : (j : Int) < x
    · obtain ⟨n, i2, h2, e2, l2, u2, c2⟩ := below_ok b hb i1 h1 70 c1 (by decide)
      obtain ⟨k', v', t', i', h', c', e'⟩ := ih (j + 1) i2 h2 (Sha.takeP k v t n).1 (Sha.takeP k v t n).2.1 (Sha.takeP k v t n).2.2.1 (by omega) c2
      refine ⟨k', v', t', i', h', c', fun K hK => ?_⟩
      obtain ⟨K, rfl⟩ := succ_of hK
      simp only [spec_l08Pool.l0]
      rw [e1, Option.bind_some, if_pos hx, e2, Option.bind_some, stake_f, Option.bind_some, wr ((j : Int) + 1) (by omega) (by omega)]
      exact e' K (by omega)
    · obtain ⟨y, i2, h2, e2, l2, u2, c2⟩ := below_ok b hb i1 h1 12 c1 (by decide)
      obtain ⟨p, i3, h3, e3, m3, c3⟩ := pick_ok b hb i2 h2 c2 [(-1), 20, 21] (by decide)
      by_cases y0 : y = 0
      · refine ⟨k, v, p, i3, h3, c3, fun K hK => ?_⟩
        obtain ⟨K, rfl⟩ := succ_of hK
        simp only [spec_l08Pool.l0]
        rw [e1, Option.bind_some, if_neg hx, e2, Option.bind_some, if_pos y0, e3, Option.bind_some]
      · by_cases y1 : y = 1
        · refine ⟨(⟨#[115, 104, 111, 114, 116]⟩ : ByteArray), v, t, i2, h2, c2, fun K hK => ?_⟩
          obtain ⟨K, rfl⟩ := succ_of hK
          simp only [spec_l08Pool.l0]
          rw [e1, Option.bind_some, if_neg hx, e2, Option.bind_some, if_neg y0, if_pos y1]
        · refine ⟨k, v, t, i2, h2, c2, fun K hK => ?_⟩
          obtain ⟨K, rfl⟩ := succ_of hK
          simp only [spec_l08Pool.l0]
          rw [e1, Option.bind_some, if_neg hx, e2, Option.bind_some, if_neg y0, if_neg y1]
theorem draw_ok (b : List Int) (hb : b.length ≤ 1048576) : ∃ k v t n, ∀ K, 6100 ≤ K → spec_DrawPoolTake.f K b = some (k, v, t, n) := by
  obtain ⟨h0, e0⟩ := new_ok b hb
  obtain ⟨m, i1, h1, e1, l1, u1, c1⟩ := below_ok b hb 0 h0 9 ⟨by omega, by omega⟩ (by decide)
  obtain ⟨s, i2, h2, z2, _, c2, e2⟩ := text_ok b hb i1 h1 m c1 l1
  obtain ⟨k, v, t, i3, h3, c3, e3⟩ := pool_l0 b hb 4 0 i2 h2 (Sha.mixP Sha.z32 Sha.o32 s).1 (Sha.mixP Sha.z32 Sha.o32 s).2 0 rfl c2
  obtain ⟨n, i4, h4, e4, m4, c4⟩ := pick_ok b hb i3 h3 c3 [0, 1, 32, 33, 100, 200, 201, (-1)] (by decide)
  refine ⟨k, v, t, n, fun K hK => ?_⟩
  have a0 : spec_l01Long.f K 32 0 = some Sha.z32 := (long_ok 32 0 (by decide) (by decide) K (by omega)).trans (congrArg some z32_is)
  have a1 : spec_l01Long.f K 32 1 = some Sha.o32 := (long_ok 32 1 (by decide) (by decide) K (by omega)).trans (congrArg some o32_is)
  have hz := Sha.z32_size
  have ho := Sha.o32_size
  have en : spec_PoolNew.f K s = some ((Sha.mixP Sha.z32 Sha.o32 s).1, (Sha.mixP Sha.z32 Sha.o32 s).2, 0) := by
    unfold spec_PoolNew.f
    rw [a0, Option.bind_some, a1, Option.bind_some, mix_ok _ _ _ _ (by omega) (by omega) (by omega), Option.bind_some]
  have ep : spec_l08Pool.f K b 0 h0 = some (k, v, t, i3, h3) := by
    unfold spec_l08Pool.f
    rw [e1, Option.bind_some]
    simp only
    rw [e2 K (by omega), Option.bind_some]
    simp only
    rw [en, Option.bind_some]
    exact e3 K (by omega)
  unfold spec_DrawPoolTake.f
  rw [e0 K (by omega), Option.bind_some]
  simp only
  rw [ep, Option.bind_some]
  simp only
  rw [e4, Option.bind_some]
theorem takes_l0 (x4 : Int) (x6 : ByteArray) (a b c d : ByteArray) (t t' : Int) (h6 : (x6.size : Int) = x4) (hok : Sha.pOk c d t' = true) (ht : t' = t + 1) (ht0 : 0 ≤ t ∧ t < 20) : ∀ (e : Nat) (i : Nat) (k v : ByteArray) (K : Nat), i + e = 20 → k.size = 32 → v.size = 32 → e < K → laws_FnPools.l0 K x4 x6 (i : Int) a b t c d t' k v (i : Int) = some true := by
  intro e
  induction e with
  | zero =>
    intro i k v K hi hk hv hK
    obtain ⟨K, rfl⟩ := succ_of hK
    have hm : (⟨#[109, 111, 114, 101]⟩ : ByteArray).size ≤ 100000000 := by decide
    have hf : Sha.feedP k v (i : Int) ⟨#[109, 111, 114, 101]⟩ = ((Sha.mixP k v ⟨#[109, 111, 114, 101]⟩).1, (Sha.mixP k v ⟨#[109, 111, 114, 101]⟩).2, 0) := by
      unfold Sha.feedP
      rw [if_pos ((pok_iff _ _ _).2 ⟨hk, hv, by omega, by omega⟩)]
    have e1 : Sha.takeP k v (i : Int) 3 = (⟨#[]⟩, ⟨#[]⟩, 0, ⟨#[]⟩, false) := by
      rcases take_cases k v (i : Int) 3 with ⟨e, _⟩ | ⟨_, _, _, _, _, _, _, _, h⟩
      · exact e
      · omega
    obtain ⟨k2, v2, x2, e2⟩ : ∃ k2 v2 x2, Sha.takeP (Sha.mixP k v ⟨#[109, 111, 114, 101]⟩).1 (Sha.mixP k v ⟨#[109, 111, 114, 101]⟩).2 0 3 = (k2, v2, 0 + 1, x2, true) := by
      rcases take_cases (Sha.mixP k v ⟨#[109, 111, 114, 101]⟩).1 (Sha.mixP k v ⟨#[109, 111, 114, 101]⟩).2 0 3 with ⟨_, h⟩ | ⟨k2, v2, x2, e, _⟩
      · exact absurd ⟨(Sha.mixP_size _ _ _).1, (Sha.mixP_size _ _ _).2, by decide, by decide, by decide, by decide⟩ h
      · exact ⟨k2, v2, x2, e⟩
    have ei : impl_PoolFeed.f k v (i : Int) ⟨#[109, 111, 114, 101]⟩ = some ((Sha.mixP k v ⟨#[109, 111, 114, 101]⟩).1, (Sha.mixP k v ⟨#[109, 111, 114, 101]⟩).2, 0) := by
      unfold impl_PoolFeed.f
      rw [if_pos hm, hf]
    have es : spec_PoolFeed.f k v (i : Int) ⟨#[109, 111, 114, 101]⟩ = some ((Sha.mixP k v ⟨#[109, 111, 114, 101]⟩).1, (Sha.mixP k v ⟨#[109, 111, 114, 101]⟩).2, 0) := by
      rw [feed_ok k v (i : Int) _ (by omega) (by omega) hm, hf]
    have hw : t' = wrap64 (t + 1) := by rw [wr (t + 1) (by omega) (by omega)]; exact ht
    generalize (Sha.mixP k v ⟨#[109, 111, 114, 101]⟩).1 = mk at *
    generalize (Sha.mixP k v ⟨#[109, 111, 114, 101]⟩).2 = mv at *
    simp only [laws_FnPools.l0]
    rw [if_neg (by omega), itake_f, e1, Option.bind_some, ei, Option.bind_some]
    simp only
    rw [itake_f, e2, Option.bind_some, if_pos h6, ipok_ok, Option.bind_some, if_pos hok, if_pos hw]
    simp only
    rw [if_neg (by decide), if_pos trivial, es, Option.bind_some]
    simp
  | succ e ih =>
    intro i k v K hi hk hv hK
    obtain ⟨K, rfl⟩ := succ_of hK
    rcases take_cases k v (i : Int) 3 with ⟨_, h⟩ | ⟨k2, v2, x2, e2, s1, s2, s3, _, _⟩
    · exact absurd ⟨hk, hv, by omega, by omega, by decide, by decide⟩ h
    · simp only [laws_FnPools.l0]
      rw [if_pos (by omega), itake_f, e2, Option.bind_some]
      simp only
      rw [if_pos trivial, if_pos s3, wr ((i : Int) + 1) (by omega) (by omega)]
      exact ih (i + 1) k2 v2 K (by omega) s1 s2 (by omega)
theorem FnPools : laws_FnPools.Pure := by
  intro l0 hl hl2 hx
  by_cases big : (l0.length : Int) > 1048576
  · refine ⟨0, ?_⟩
    unfold laws_FnPools.f laws_big.f
    rw [Option.bind_some, if_pos (decide_eq_true big)]
  · obtain ⟨k, v, t, n, ed⟩ := draw_ok l0 (by omega)
    obtain ⟨K, hK⟩ : ∃ K, 6100 ≤ K := ⟨6100, Nat.le_refl _⟩
    refine ⟨K, ?_⟩
    obtain ⟨L, rfl⟩ := succ_of (show 0 < K by omega)
    unfold laws_FnPools.f laws_big.f
    rw [Option.bind_some, if_neg (by rw [decide_eq_true_eq]; exact big), ed _ hK, Option.bind_some]
    simp only
    rw [itake_f, Option.bind_some, stake_f, Option.bind_some, if_neg (by simp), if_pos rfl, if_neg (by simp), ipok_ok, Option.bind_some, pok_ok, Option.bind_some]
    have hb : (Sha.pOk k v t != Sha.pOk k v t) = false := by simp
    rw [hb]
    rcases take_cases k v t n with ⟨e, _⟩ | ⟨k2, v2, x2, e, s1, s2, s3, t0, t1⟩
    · rw [e]
      simp only [laws_FnPools.j0]
      rw [if_neg (by decide), if_neg (by decide), (nil_size _).2 rfl]
      rfl
    · rw [e]
      simp only [laws_FnPools.j0]
      have hN : impl_PoolNew.f ⟨#[115, 101, 101, 100]⟩ = some ((Sha.mixP Sha.z32 Sha.o32 ⟨#[115, 101, 101, 100]⟩).1, (Sha.mixP Sha.z32 Sha.o32 ⟨#[115, 101, 101, 100]⟩).2, 0) := by
        unfold impl_PoolNew.f
        rw [if_pos (by decide)]
      rw [if_neg (by decide), if_pos trivial, hN, Option.bind_some]
      have hs1 := (Sha.mixP_size Sha.z32 Sha.o32 ⟨#[115, 101, 101, 100]⟩).1
      have hs2 := (Sha.mixP_size Sha.z32 Sha.o32 ⟨#[115, 101, 101, 100]⟩).2
      simp only
      generalize (Sha.mixP Sha.z32 Sha.o32 ⟨#[115, 101, 101, 100]⟩).1 = mk at hs1 ⊢
      generalize (Sha.mixP Sha.z32 Sha.o32 ⟨#[115, 101, 101, 100]⟩).2 = mv at hs2 ⊢
      have hp : Sha.pOk k2 v2 (t + 1) = true := (pok_iff _ _ _).2 ⟨s1, s2, by omega, by omega⟩
      have := takes_l0 n x2 k v k2 v2 t (t + 1) s3 hp rfl ⟨t0, t1⟩ 20 0 mk mv L (by omega) hs1 hs2 (by omega)
      rw [show (((0 : Nat) : Int)) = 0 from rfl] at this
      exact this

end Go.Proofs.YtlddohppkcndjaaDoor.Pure
