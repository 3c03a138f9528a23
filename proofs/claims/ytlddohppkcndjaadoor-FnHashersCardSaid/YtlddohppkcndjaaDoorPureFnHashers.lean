/- Of every drawn hasher and text the law's lines hold. Condition: the table of the rounds' numbers reads as the program's text lays it (tied to that text). -/
import Derived.Test.YtlddohppkcndjaaDoorPFnHashersx4
import Derived.Test.YtlddohppkcndjaaDoorShaL
set_option linter.unusedVariables false
set_option linter.unusedSimpArgs false
namespace Go.Proofs.YtlddohppkcndjaaDoor.Pure
open Go.RowKit Go.Proofs.YtlddohppkcndjaaDoor.PFnHashers Go.Proofs.YtlddohppkcndjaaDoorW.PrintWords Go.Proofs.YtlddohppkcndjaaDoorW.PrintLast Go.Proofs.YtlddohppkcndjaaDoorW.PrintMore

-- snippet plain
/-! bytes as numbers -/
def bl (s : ByteArray) : List Int := s.data.toList.map fun b => (b.toNat : Int)
theorem str_size (xs : List Int) : (strOfNums xs).size = xs.length := strOfNums_size xs
theorem wr (n : Int) (h : -9223372036854775808 ≤ n) (h' : n ≤ 9223372036854775807) : wrap64 n = n := by unfold wrap64; omega
theorem tmod_pos (a b : Int) (h : 0 ≤ a) : Int.tmod a b = a % b := Int.tmod_eq_emod_of_nonneg h
theorem succ_of {k d : Nat} (h : d < k) : ∃ m, k = m + 1 := ⟨k - 1, by omega⟩
theorem mask_range (x : Int) : 0 ≤ Go.bits .and .i64 x 255 ∧ Go.bits .and .i64 x 255 ≤ 255 := by
  unfold Go.bits
  have h : (BitVec.ofInt IntKind.i64.bits x &&& BitVec.ofInt IntKind.i64.bits 255).toNat ≤ 255 := by
    rw [BitVec.toNat_and]
    exact Nat.le_trans Nat.and_le_right (by decide)
  simp only [IntKind.wrap_i64]
  generalize (BitVec.ofInt IntKind.i64.bits x &&& BitVec.ofInt IntKind.i64.bits 255).toNat = n at h
  omega
def curOk (b : List Int) (i : Int) : Prop := 0 ≤ i ∧ i ≤ b.length
theorem byte_ok (b : List Int) (hb : b.length ≤ 1048576) (i h : Int) (hi : curOk b i) : ∃ x i' h', spec_l01Byte.f b i h = some (x, i', h') ∧ 0 ≤ x ∧ x ≤ 255 ∧ curOk b i' := by
  obtain ⟨h0, h1⟩ := hi
  unfold spec_l01Byte.f
  by_cases c : i < (b.length : Int)
  · rw [if_pos c, if_pos h0, wr (i + 1) (by omega) (by omega)]
    exact ⟨_, _, _, rfl, (mask_range _).1, (mask_range _).2, by unfold curOk; omega⟩
  · rw [if_neg c]
    exact ⟨_, _, _, rfl, (mask_range _).1, (mask_range _).2, ⟨h0, h1⟩⟩
theorem below_ok (b : List Int) (hb : b.length ≤ 1048576) (i h n : Int) (hi : curOk b i) (hn : 0 < n) : ∃ x i' h', spec_l01Below.f b i h n = some (x, i', h') ∧ 0 ≤ x ∧ x < n ∧ curOk b i' := by
  unfold spec_l01Below.f
  rw [if_neg (show ¬ n ≤ 0 by omega)]
  obtain ⟨x1, i1, h1, e1, l1, u1, c1⟩ := byte_ok b hb i h hi
  by_cases c : n ≤ 256
  · rw [if_pos c, e1, Option.bind_some, if_neg (show ¬ n = 0 by omega)]
    exact ⟨_, _, _, rfl, Int.tmod_nonneg _ l1, Int.tmod_lt_of_pos _ hn, c1⟩
  · obtain ⟨x2, i2, h2, e2, l2, u2, c2⟩ := byte_ok b hb i1 h1 c1
    obtain ⟨x3, i3, h3, e3, l3, u3, c3⟩ := byte_ok b hb i2 h2 c2
    obtain ⟨x4, i4, h4, e4, l4, u4, c4⟩ := byte_ok b hb i3 h3 c3
    rw [if_neg c, e1, Option.bind_some]
    simp only
    rw [e2, Option.bind_some]
    simp only
    rw [e3, Option.bind_some]
    simp only
    rw [e4, Option.bind_some]
    simp only
    rw [if_neg (show ¬ n = 0 by omega), wr (x1 * 16777216) (by omega) (by omega), wr (x2 * 65536) (by omega) (by omega), wr (x3 * 256) (by omega) (by omega), wr (x1 * 16777216 + x2 * 65536) (by omega) (by omega), wr (x1 * 16777216 + x2 * 65536 + x3 * 256) (by omega) (by omega), wr (x1 * 16777216 + x2 * 65536 + x3 * 256 + x4) (by omega) (by omega)]
    exact ⟨_, _, _, rfl, Int.tmod_nonneg _ (by omega), Int.tmod_lt_of_pos _ hn, c4⟩
theorem new_l0 (b : List Int) (hb : b.length ≤ 1048576) : ∀ (d : Nat) (i : Nat) (h : Int), i + d = 4000 → ∃ h', ∀ K, d < K → spec_l01New.l0 K b h i = some (b, 0, h') := by
  intro d
  induction d with
  | zero =>
    intro i h hi
    refine ⟨h, fun K hK => ?_⟩
    obtain ⟨K, rfl⟩ := succ_of hK
    simp only [spec_l01New.l0]
    by_cases c : (i : Int) < (b.length : Int)
    · rw [if_pos c, if_neg (show ¬ (i : Int) < 4000 by omega)]
    · rw [if_neg c]
  | succ d ih =>
    intro i h hi
    by_cases c : (i : Int) < (b.length : Int)
    · obtain ⟨h', e⟩ := ih (i + 1) (Go.bits .and .i64 (wrap64 ((wrap64 ((wrap64 (h * 131)) + (wrap64 (rd b i)))) + 7)) 1073741823) (by omega)
      refine ⟨h', fun K hK => ?_⟩
      obtain ⟨K, rfl⟩ := succ_of hK
      simp only [spec_l01New.l0]
      rw [if_pos c, if_pos (show (i : Int) < 4000 by omega), if_pos (show 0 ≤ (i : Int) by omega), wr ((i : Int) + 1) (by omega) (by omega), show ((i : Int) + 1) = ((i + 1 : Nat) : Int) by omega]
      exact e K (by omega)
    · refine ⟨h, fun K hK => ?_⟩
      obtain ⟨K, rfl⟩ := succ_of hK
      simp only [spec_l01New.l0]
      rw [if_neg c]
theorem new_ok (b : List Int) (hb : b.length ≤ 1048576) : ∃ h', ∀ K, 4001 ≤ K → spec_l01New.f K b = some (b, 0, h') := by
  obtain ⟨h', e⟩ := new_l0 b hb 4000 0 (wrap64 (27401 + (b.length : Int))) (by omega)
  exact ⟨h', fun K hK => e K (by omega)⟩

-- snippet long
theorem long_l0 (n x : Int) : ∀ (d j K : Nat) (l : List Int), (n : Int) = j + d → j + d < 1000000000 → d < K → l.length = j + d → spec_l01Long.l0 K n x l j = some (strOfNums (l.take j ++ List.replicate d x)) := by
  intro d
  induction d with
  | zero =>
    intro j K l hn hj hK hl
    obtain ⟨K, rfl⟩ := succ_of hK
    simp only [spec_l01Long.l0]
    rw [if_neg (show ¬ (j : Int) < n by omega), List.take_of_length_le (by omega)]
    simp
  | succ d ih =>
    intro j K l hn hj hK hl
    obtain ⟨K, rfl⟩ := succ_of hK
    simp only [spec_l01Long.l0]
    rw [if_pos (show (j : Int) < n by omega), if_pos (show 0 ≤ (j : Int) by omega), if_pos (show (j : Int) < (l.length : Int) by omega), wr ((j : Int) + 1) (by omega) (by omega), show ((j : Int) + 1) = ((j + 1 : Nat) : Int) by omega, Int.toNat_natCast, ih (j + 1) K _ (by omega) (by omega) (by omega) (by simp; omega)]
    congr 2
    rw [List.take_set, List.replicate_succ]
    have : (l.take (j + 1)).set j x = l.take j ++ [x] := by
      rw [List.take_succ_eq_append_getElem (show j < l.length by omega), List.set_append_right _ _ (by simp; omega)]
      simp [show min j l.length = j by omega]
    rw [this]
    simp
theorem long_ok (n x : Int) (h0 : 0 ≤ n) (h1 : n < 1000000000) (K : Nat) (hK : n < K) : spec_l01Long.f K n x = some (strOfNums (List.replicate n.toNat x)) := by
  obtain ⟨m, rfl⟩ := Int.eq_ofNat_of_zero_le h0
  unfold spec_l01Long.f
  rw [if_pos h0, if_pos (by simp; omega)]
  have := long_l0 m x m 0 K (List.replicate m 0) (by omega) (by omega) (by omega) (by simp)
  simpa using this

-- snippet drawlong


-- snippet textcore
theorem text_l0 (b : List Int) (hb : b.length ≤ 1048576) (n : Int) : ∀ (d : Nat) (j : Nat) (acc : List Int) (i h : Int), (n : Int) ≤ j + d → j + d ≤ 5000 → acc.length + d ≤ 5000 → curOk b i → (∀ x ∈ acc, 0 ≤ x ∧ x < 256) → ∃ t i' h', t.size ≤ acc.length + d ∧ curOk b i' ∧ ∀ K, d < K → spec_l01Text.l0 K n acc j b i h = some (t, i', h') := by
  intro d
  induction d with
  | zero =>
    intro j acc i h hn hj hl hi hx
    refine ⟨strOfNums acc, i, h, by rw [str_size acc]; omega, hi, fun K hK => ?_⟩
    obtain ⟨K, rfl⟩ := succ_of hK
    simp only [spec_l01Text.l0]
    rw [if_neg (show ¬ (j : Int) < n by omega)]
  | succ d ih =>
    intro j acc i h hn hj hl hi hx
    by_cases c : (j : Int) < n
    · obtain ⟨x, i', h', e, l, u, c'⟩ := byte_ok b hb i h hi
      obtain ⟨t, i2, h2, ht, c2, et⟩ := ih (j + 1) (acc ++ [x % 256]) i' h' (by omega) (by omega) (by simp; omega) c' (by
        intro y hy
        rcases List.mem_append.mp hy with hy | hy
        · exact hx y hy
        · rw [List.mem_singleton] at hy; omega)
      refine ⟨t, i2, h2, by simp at ht; omega, c2, fun K hK => ?_⟩
      obtain ⟨K, rfl⟩ := succ_of hK
      simp only [spec_l01Text.l0]
      rw [if_pos c, e, Option.bind_some, if_pos (show acc.length < 140737488355328 by omega), wr ((j : Int) + 1) (by omega) (by omega), show ((j : Int) + 1) = ((j + 1 : Nat) : Int) by omega]
      exact et K (by omega)
    · refine ⟨strOfNums acc, i, h, by rw [str_size acc]; omega, hi, fun K hK => ?_⟩
      obtain ⟨K, rfl⟩ := succ_of hK
      simp only [spec_l01Text.l0]
      rw [if_neg c]
theorem text_ok (b : List Int) (hb : b.length ≤ 1048576) (i h n : Int) (hi : curOk b i) (hn : 0 ≤ n) : ∃ t i' h', t.size ≤ 5000 ∧ (t.size : Int) ≤ n ∧ curOk b i' ∧ ∀ K, 6000 ≤ K → spec_l01Text.f K b i h n = some (t, i', h') := by
  by_cases c : n > 5000
  · obtain ⟨t, i', h', ht, c', e⟩ := text_l0 b hb 5000 5000 0 [] i h (by omega) (by omega) (by simp) hi (by simp)
    refine ⟨t, i', h', by simpa using ht, by simp at ht; omega, c', fun K hK => ?_⟩
    obtain ⟨K, rfl⟩ : ∃ m, K = m + 1 := ⟨K - 1, by omega⟩
    unfold spec_l01Text.f
    rw [if_pos c]
    simp only [spec_l01Text.j0]
    exact e K (by omega)
  · obtain ⟨m, rfl⟩ := Int.eq_ofNat_of_zero_le hn
    obtain ⟨t, i', h', ht, c', e⟩ := text_l0 b hb m m 0 [] i h (by omega) (by omega) (by simp; omega) hi (by simp)
    refine ⟨t, i', h', by simp at ht; omega, by simp at ht; omega, c', fun K hK => ?_⟩
    obtain ⟨K, rfl⟩ : ∃ m, K = m + 1 := ⟨K - 1, by omega⟩
    unfold spec_l01Text.f
    rw [if_neg c]
    simp only [spec_l01Text.j0]
    exact e K (by omega)

-- snippet l05text
theorem pick_ok (b : List Int) (hb : b.length ≤ 1048576) (i h : Int) (hi : curOk b i) (l : List Int) (hl : 0 < l.length) : ∃ x i' h', spec_l01PickInt.f b i h l = some (x, i', h') ∧ x ∈ l ∧ curOk b i' := by
  obtain ⟨x, i', h', e, l0, u, c⟩ := below_ok b hb i h (l.length : Int) hi (by omega)
  unfold spec_l01PickInt.f
  rw [e, Option.bind_some, if_pos l0, if_pos u]
  refine ⟨_, _, _, rfl, ?_, c⟩
  unfold rd
  rw [List.getD_eq_getElem?_getD, List.getElem?_eq_getElem (show x.toNat < l.length by omega), Option.getD_some]
  exact List.getElem_mem _
theorem l05_ok (b : List Int) (hb : b.length ≤ 1048576) (i h : Int) (hi : curOk b i) : ∃ t i' h', t.size ≤ 6000 ∧ curOk b i' ∧ ∀ K, 6000 ≤ K → spec_l05Text.f K b i h = some (t, i', h') := by
  obtain ⟨n, i1, h1, e1, m1, c1⟩ := pick_ok b hb i h hi [0, 3, 10, 54, 55, 56, 57, 63, 64, 65, 119, 120, 130] (by decide)
  have hn : 0 ≤ n ∧ n ≤ 130 := by
    simp only [List.mem_cons, List.not_mem_nil, or_false] at m1
    omega
  obtain ⟨m, i2, h2, e2, l2, u2, c2⟩ := below_ok b hb i1 h1 5 c1 (by decide)
  obtain ⟨t, i3, h3, s3, _, c3, e3⟩ := text_ok b hb i2 h2 m c2 l2
  obtain ⟨z, i4, h4, e4, l4, u4, c4⟩ := below_ok b hb i3 h3 20 c3 (by decide)
  have lz : (strOfNums (List.replicate n.toNat ((wrap64 (65 + z)) % 256))).size ≤ 130 := by rw [strOfNums_size, List.length_replicate]; omega
  refine ⟨t ++ strOfNums (List.replicate n.toNat ((wrap64 (65 + z)) % 256)), i4, h4, by rw [ByteArray.size_append]; omega, c4, fun K hK => ?_⟩
  unfold spec_l05Text.f
  rw [e1, Option.bind_some]
  simp only
  rw [e2, Option.bind_some]
  simp only
  rw [e3 K hK, Option.bind_some]
  simp only
  rw [e4, Option.bind_some]
  simp only
  rw [long_ok n _ hn.1 (by omega) K (by omega), Option.bind_some, if_pos (by omega)]

-- snippet once
theorem once_ok (b : List Int) (hb : b.length ≤ 1048576) (i h n : Int) (hi : curOk b i) (hn : 0 < n) : ∃ x i' h', spec_l01Once.f b i h n = some (x, i', h') ∧ curOk b i' := by
  obtain ⟨x, i', h', e, _, _, c⟩ := below_ok b hb i h n hi hn
  unfold spec_l01Once.f
  rw [e]
  exact ⟨_, _, _, rfl, c⟩

-- snippet hasherok
/-! right hashers -/
def hashOk (st rest : ByteArray) (n : Int) : Bool := decide (st.size = 32 ∧ 0 ≤ n ∧ n ≤ 1000000000 ∧ (rest.size : Int) = n % 64)
theorem impl_HasherOk_f (st rest : ByteArray) (n : Int) : impl_HasherOk.f st rest n = some (hashOk st rest n) := by
  unfold impl_HasherOk.f impl_in.f hashOk
  by_cases a : st.size = 32
  · rw [if_pos (show (st.size : Int) = 32 by omega)]
    by_cases b : 0 ≤ n
    · rw [if_pos (show n ≥ 0 from b), Option.bind_some, tmod_pos _ _ b]
      by_cases c : n ≤ 1000000000
      · rw [if_pos (by simpa using c)]
        congr 1
        rw [Bool.eq_iff_iff]
        simp
        omega
      · rw [if_neg (by simpa using c)]
        congr 1
        symm
        rw [decide_eq_false_iff_not]
        exact fun h => c h.2.2.1
    · rw [if_neg (show ¬ n ≥ 0 from b), Option.bind_some, if_neg (by simp)]
      congr 1
      symm
      rw [decide_eq_false_iff_not]
      exact fun h => b h.2.1
  · rw [if_neg (show ¬ (st.size : Int) = 32 by omega)]
    congr 1
    symm
    rw [decide_eq_false_iff_not]
    exact fun h => a h.1

-- snippet hasherok_spec
theorem spec_HasherOk_f (st rest : ByteArray) (n : Int) : spec_HasherOk.f st rest n = some (hashOk st rest n) := by
  unfold spec_HasherOk.f spec_l01In.f hashOk
  by_cases a : st.size = 32
  · rw [if_pos (show (st.size : Int) = 32 by omega)]
    by_cases r : (rest.size : Int) < 64
    · rw [if_pos r]
      by_cases b : 0 ≤ n
      · rw [if_pos (show n ≥ 0 from b), Option.bind_some, tmod_pos _ _ b]
        by_cases c : n ≤ 1000000000
        · rw [if_pos (by simpa using c)]
          congr 1
          rw [Bool.eq_iff_iff]
          simp
          omega
        · rw [if_neg (by simpa using c)]
          congr 1
          symm
          rw [decide_eq_false_iff_not]
          exact fun h => c h.2.2.1
      · rw [if_neg (show ¬ n ≥ 0 from b), Option.bind_some, if_neg (by simp)]
        congr 1
        symm
        rw [decide_eq_false_iff_not]
        exact fun h => b h.2.1
    · rw [if_neg r]
      congr 1
      symm
      rw [decide_eq_false_iff_not]
      intro h
      have := Int.emod_lt_of_pos n (show (0 : Int) < 64 by decide)
      omega
  · rw [if_neg (show ¬ (st.size : Int) = 32 by omega)]
    congr 1
    symm
    rw [decide_eq_false_iff_not]
    exact fun h => a h.1

theorem okH_same (st r : ByteArray) (c : Int) : hashOk st r c = Sha.hOk st r c := rfl
theorem more_keeps (st r : ByteArray) (c : Int) (s : ByteArray) (hr : r.size ≤ 64) (hc : 0 ≤ c ∧ c ≤ 1000000000) : (Sha.hashMore st r c s).2.1.size ≤ 64 ∧ 0 ≤ (Sha.hashMore st r c s).2.2 ∧ (Sha.hashMore st r c s).2.2 ≤ 1000000000 := by
  unfold Sha.hashMore
  split
  · next h =>
    refine ⟨?_, ?_, ?_⟩
    · show (Sha.blks _ _).2.size ≤ 64
      rw [Sha.blks_size]
      omega
    · show 0 ≤ c + (s.size : Int)
      omega
    · show c + (s.size : Int) ≤ 1000000000
      omega
  · exact ⟨hr, hc⟩
/-- What ends a drawn hasher. -/
def tailH (k : Nat) (b : List Int) (i h : Int) (st r : ByteArray) (c : Int) : Option (ByteArray × ByteArray × Int × Int × Int) :=
  (spec_l01Below.f b i h 16).bind fun bt169 => (if bt169.1 = 0 then ((spec_l01Below.f b bt169.2.1 bt169.2.2 40).bind fun bt172 => ((spec_l01Text.f k b bt172.2.1 bt172.2.2 bt172.1).bind fun bt175 => (some (bt175.1, r, c, bt175.2.1, bt175.2.2)))) else (if bt169.1 = 1 then (if r.size + 1 ≤ 9223372036854775807 then (some (st, r ++ (⟨#[120]⟩ : ByteArray), c, bt169.2.1, bt169.2.2)) else (none)) else (if bt169.1 = 2 then ((spec_l01PickInt.f b bt169.2.1 bt169.2.2 (([64, (-64), 1, 1000000000] : List Int))).bind fun bt181 => (some (st, r, wrap64 (c + bt181.1), bt181.2.1, bt181.2.2))) else (if bt169.1 = 3 then ((spec_l01Long.f k 64 65).bind fun t184 => (some (st, t184, 64, bt169.2.1, bt169.2.2))) else (some (st, r, c, bt169.2.1, bt169.2.2))))))
theorem tail_ok (b : List Int) (hb : b.length ≤ 1048576) (i h : Int) (hi : curOk b i) (st r : ByteArray) (c : Int) (hr : r.size ≤ 64) (hc : 0 ≤ c ∧ c ≤ 1000000000) :
    ∃ st' r' c' i' h', curOk b i' ∧ (-1000000000 ≤ c' ∧ c' ≤ 3000000000) ∧ ∀ K, 6000 ≤ K → tailH K b i h st r c = some (st', r', c', i', h') := by
  obtain ⟨n, i1, h1, e1, l1, u1, c1⟩ := below_ok b hb i h 16 hi (by decide)
  by_cases n0 : n = 0
  · obtain ⟨m, i2, h2, e2, l2, u2, c2⟩ := below_ok b hb i1 h1 40 c1 (by decide)
    obtain ⟨t, i3, h3, s3, _, c3, e3⟩ := text_ok b hb i2 h2 m c2 l2
    refine ⟨t, r, c, i3, h3, c3, by omega, fun K hK => ?_⟩
    unfold tailH
    rw [e1, Option.bind_some]
    simp only
    rw [if_pos n0, e2, Option.bind_some]
    simp only
    rw [e3 K hK, Option.bind_some]
  · by_cases n1 : n = 1
    · refine ⟨st, r ++ ⟨#[120]⟩, c, i1, h1, c1, by omega, fun K hK => ?_⟩
      unfold tailH
      rw [e1, Option.bind_some]
      simp only
      rw [if_neg n0, if_pos n1, if_pos (by omega)]
    · by_cases n2 : n = 2
      · obtain ⟨z, i2, h2, e2, m2, c2⟩ := pick_ok b hb i1 h1 c1 [64, (-64), 1, 1000000000] (by decide)
        have hz : -64 ≤ z ∧ z ≤ 1000000000 := by
          simp only [List.mem_cons, List.not_mem_nil, or_false] at m2
          omega
        refine ⟨st, r, wrap64 (c + z), i2, h2, c2, by rw [wr (c + z) (by omega) (by omega)]; omega, fun K hK => ?_⟩
        unfold tailH
        rw [e1, Option.bind_some]
        simp only
        rw [if_neg n0, if_neg n1, if_pos n2, e2, Option.bind_some]
      · by_cases n3 : n = 3
        · refine ⟨st, strOfNums (List.replicate (64 : Int).toNat 65), 64, i1, h1, c1, by omega, fun K hK => ?_⟩
          unfold tailH
          rw [e1, Option.bind_some]
          simp only
          rw [if_neg n0, if_neg n1, if_neg n2, if_pos n3, long_ok 64 65 (by decide) (by decide) K (by omega), Option.bind_some]
        · refine ⟨st, r, c, i1, h1, c1, by omega, fun K hK => ?_⟩
          unfold tailH
          rw [e1, Option.bind_some]
          simp only
          rw [if_neg n0, if_neg n1, if_neg n2, if_neg n3]
theorem hasher_l0 (b : List Int) (hb : b.length ≤ 1048576) : ∀ (d x : Nat) (i h : Int) (st r : ByteArray) (c : Int), x + d = 2 → curOk b i → r.size ≤ 64 → (0 ≤ c ∧ c ≤ 1000000000) →
    ∃ st' r' c' i' h', curOk b i' ∧ (-1000000000 ≤ c' ∧ c' ≤ 3000000000) ∧ ∀ K, 6010 + d ≤ K → spec_l05Hasher.l0 K x b i h st r c = some (st', r', c', i', h') := by
  intro d
  induction d with
  | zero =>
    intro x i h st r c hx hi hr hc
    obtain ⟨n, i1, h1, e1, l1, u1, c1⟩ := below_ok b hb i h 3 hi (by decide)
    obtain ⟨st', r', c', i', h', hi', hc', e⟩ := tail_ok b hb i1 h1 c1 st r c hr hc
    refine ⟨st', r', c', i', h', hi', hc', fun K hK => ?_⟩
    obtain ⟨K, rfl⟩ : ∃ m, K = m + 1 := ⟨K - 1, by omega⟩
    rw [spec_l05Hasher.l0, e1, Option.bind_some]
    simp only
    rw [if_neg (show ¬ (x : Int) < n by omega)]
    exact e K (by omega)
  | succ d ih =>
    intro x i h st r c hx hi hr hc
    obtain ⟨n, i1, h1, e1, l1, u1, c1⟩ := below_ok b hb i h 3 hi (by decide)
    by_cases hn : (x : Int) < n
    · obtain ⟨t, i2, h2, s2, c2, e2⟩ := l05_ok b hb i1 h1 c1
      obtain ⟨k1, k2, k3⟩ := more_keeps st r c t hr hc
      obtain ⟨st', r', c', i', h', hi', hc', e⟩ := ih (x + 1) i2 h2 (Sha.hashMore st r c t).1 (Sha.hashMore st r c t).2.1 (Sha.hashMore st r c t).2.2 (by omega) c2 k1 ⟨k2, k3⟩
      refine ⟨st', r', c', i', h', hi', hc', fun K hK => ?_⟩
      obtain ⟨K, rfl⟩ : ∃ m, K = m + 1 := ⟨K - 1, by omega⟩
      rw [spec_l05Hasher.l0, e1, Option.bind_some]
      simp only
      rw [if_pos hn, e2 K (by omega), Option.bind_some]
      simp only
      unfold spec_HashMore.f
      rw [if_pos ⟨by omega, by omega, by omega⟩, Option.bind_some, wr ((x : Int) + 1) (by omega) (by omega), show ((x : Int) + 1) = ((x + 1 : Nat) : Int) by omega]
      exact e K (by omega)
    · obtain ⟨st', r', c', i', h', hi', hc', e⟩ := tail_ok b hb i1 h1 c1 st r c hr hc
      refine ⟨st', r', c', i', h', hi', hc', fun K hK => ?_⟩
      obtain ⟨K, rfl⟩ : ∃ m, K = m + 1 := ⟨K - 1, by omega⟩
      rw [spec_l05Hasher.l0, e1, Option.bind_some]
      simp only
      rw [if_neg hn]
      exact e K (by omega)
theorem drawn (l : List Int) (hl : l.length ≤ 1048576) : ∃ st r c d, d.size ≤ 6000 ∧ (-1000000000 ≤ c ∧ c ≤ 3000000000) ∧ ∀ K, 6100 ≤ K → spec_DrawHashMore.f K l = some (st, r, c, d) := by
  obtain ⟨h0, e0⟩ := new_ok l hl
  obtain ⟨st, r, c, i1, h1, c1, hc, e1⟩ := hasher_l0 l hl 2 0 0 h0 (Sha.stText Sha.first8) ⟨#[]⟩ 0 (by omega) ⟨by omega, by omega⟩ (by decide) (by decide)
  obtain ⟨o, i2, h2, e2, c2⟩ := once_ok l hl i1 h1 12 c1 (by decide)
  obtain ⟨d, i3, h3, s3, c3, e3⟩ := l05_ok l hl i2 h2 c2
  have f1 : ∀ K, 6100 ≤ K → spec_l05Hasher.f K l 0 h0 = some (st, r, c, i1, h1) := fun K hK => by
    unfold spec_l05Hasher.f spec_HasherNew.f
    rw [Option.bind_some]
    exact e1 K (by omega)
  cases o with
  | true =>
    refine ⟨strOfNums (List.replicate (32 : Int).toNat 9), strOfNums (List.replicate (61 : Int).toNat 1), 999999997, d, s3, by omega, fun K hK => ?_⟩
    unfold spec_DrawHashMore.f
    rw [e0 K (by omega), Option.bind_some]
    simp only
    rw [f1 K hK, Option.bind_some]
    simp only
    rw [e2, Option.bind_some]
    simp only
    rw [if_pos trivial, long_ok 32 9 (by decide) (by decide) K (by omega), Option.bind_some, long_ok 61 1 (by decide) (by decide) K (by omega), Option.bind_some, e3 K (by omega), Option.bind_some]
  | false =>
    refine ⟨st, r, c, d, s3, hc, fun K hK => ?_⟩
    unfold spec_DrawHashMore.f
    rw [e0 K (by omega), Option.bind_some]
    simp only
    rw [f1 K hK, Option.bind_some]
    simp only
    rw [e2, Option.bind_some]
    simp only
    rw [if_neg (by decide), e3 K (by omega), Option.bind_some]
theorem law_j0 (st r : ByteArray) (c : Int) (d : ByteArray) (hd : d.size ≤ 6000) (K : Nat) : laws_FnHashers.j0 (K + 1) d false st r c (Sha.hashMore st r c d).1 (Sha.hashMore st r c d).2.1 (Sha.hashMore st r c d).2.2 = some true := by
  simp only [laws_FnHashers.j0]
  rw [if_neg (by decide), spec_HasherOk_f, Option.bind_some, okH_same]
  unfold impl_HashEnd.f
  by_cases ok : Sha.hOk st r c = true
  · have ok' := ok
    unfold Sha.hOk at ok'
    rw [decide_eq_true_eq] at ok'
    obtain ⟨k1, k2, k3, k4⟩ := ok'
    have size : ∀ st r c, Sha.hOk st r c = true → (Sha.hashEnd st r c).size = 32 := fun st r c h => by
      unfold Sha.hashEnd
      rw [if_pos h]
      exact Sha.stText8 _ (Sha.blks_len _ _ (Sha.txState_len _))
    rw [if_pos ok, impl_HasherOk_f, Option.bind_some, okH_same]
    by_cases hs : (d.size : Int) ≤ 1000000000 - c
    · have e : Sha.hashMore st r c d = (Sha.stText (Sha.blks (Sha.txState st) (r ++ d)).1, (Sha.blks (Sha.txState st) (r ++ d)).2, c + d.size) := by
        unfold Sha.hashMore
        rw [if_pos ⟨ok, hs⟩]
      have ok2 : Sha.hOk (Sha.hashMore st r c d).1 (Sha.hashMore st r c d).2.1 (Sha.hashMore st r c d).2.2 = true := by
        rw [e]
        unfold Sha.hOk
        simp only
        refine decide_eq_true ⟨Sha.stText8 _ (Sha.blks_len _ _ (Sha.txState_len _)), by omega, by omega, ?_⟩
        show ((Sha.blks (Sha.txState st) (r ++ d)).2.size : Int) = (c + (d.size : Int)) % 64
        rw [Sha.blks_size, ByteArray.size_append]
        omega
      rw [if_pos ok2, Option.bind_some, size _ _ _ ok2, if_pos (by decide)]
      split
      · rfl
      · rw [e, wr (c + (d.size : Int)) (by omega) (by omega)]
        simp
    · have e : Sha.hashMore st r c d = (st, r, c) := by
        unfold Sha.hashMore
        rw [if_neg (fun h => hs h.2)]
      rw [e]
      simp only
      rw [if_pos ok, Option.bind_some, size _ _ _ ok, if_pos (by decide)]
      simp
  · have e : Sha.hashMore st r c d = (st, r, c) := by
      unfold Sha.hashMore
      rw [if_neg (fun h => ok h.1)]
    rw [if_neg ok, e]
    have en : Sha.hashEnd st r c = ⟨#[]⟩ := by
      unfold Sha.hashEnd
      rw [if_neg ok]
    simp only
    rw [en]
    simp
theorem FnHashers : laws_FnHashers.Pure := by
  intro l0 hl hl2 hx
  by_cases big : (l0.length : Int) > 1048576
  · refine ⟨0, ?_⟩
    unfold laws_FnHashers.f laws_big.f
    rw [Option.bind_some, if_pos (decide_eq_true big)]
  · obtain ⟨st, r, c, d, hd, hc, e⟩ := drawn l0 (by omega)
    refine ⟨6100, ?_⟩
    unfold laws_FnHashers.f laws_big.f
    rw [Option.bind_some, if_neg (by rw [decide_eq_true_eq]; exact big), e 6100 (Nat.le_refl _), Option.bind_some]
    simp only
    unfold impl_HashMore.f spec_HashMore.f
    rw [if_pos ⟨by omega, by omega, by omega⟩, Option.bind_some, Option.bind_some, if_neg (by simp), impl_HasherOk_f, Option.bind_some, spec_HasherOk_f, Option.bind_some, show (hashOk st r c != hashOk st r c) = false by simp]
    exact law_j0 st r c d hd 6099

end Go.Proofs.YtlddohppkcndjaaDoor.Pure
