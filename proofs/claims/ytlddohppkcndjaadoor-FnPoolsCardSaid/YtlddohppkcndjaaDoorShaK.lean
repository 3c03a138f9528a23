/- The document's block and the program's block give one state; the document's HashMore. -/
import Derived.Test.YtlddohppkcndjaaDoorShaJ
import Derived.Test.YtlddohppkcndjaaDoorPHashMorex1
import Derived.Test.YtlddohppkcndjaaDoorPHashMorex3
import Derived.ChangeVars
import Derived.Carry
namespace Go.Proofs.YtlddohppkcndjaaDoor.Sha
open Go.RowKit Go.Proofs.YtlddohppkcndjaaDoorW.PrintWords Go.Proofs.YtlddohppkcndjaaDoorW.PrintLast Go.Proofs.YtlddohppkcndjaaDoorW.PrintMore Go.Proofs.YtlddohppkcndjaaDoor.Pending Go.Proofs.YtlddohppkcndjaaDoor.Pright
set_option linter.unusedVariables false
set_option linter.unusedSimpArgs false

/-- x turned right by n bits -/
def rotr (x : Int) (n : Nat) : Int := x / 2 ^ n + x % 2 ^ n * 2 ^ (32 - n)
theorem rot_or (x n : Nat) (hx : x < 2 ^ 32) (h0 : 0 < n) (h1 : n < 32) : Go.bits .or .u32 ((x * 2 ^ (32 - n) % 2 ^ 32 : Nat) : Int) ((x / 2 ^ n : Nat) : Int) = rotr x n := by
  have e : (2 : Nat) ^ 32 = 2 ^ n * 2 ^ (32 - n) := by rw [← Nat.pow_add]; congr 1; omega
  have p0 : 0 < 2 ^ n := Nat.two_pow_pos n
  have p1 : 0 < 2 ^ (32 - n) := Nat.two_pow_pos _
  have d : x / 2 ^ n < 2 ^ (32 - n) := by
    rw [Nat.div_lt_iff_lt_mul p0, Nat.mul_comm]; omega
  have r : x % 2 ^ n < 2 ^ n := Nat.mod_lt _ p0
  have m : x * 2 ^ (32 - n) % 2 ^ 32 = 2 ^ (32 - n) * (x % 2 ^ n) := by
    rw [e, Nat.mul_comm (2 ^ n), Nat.mul_comm x, Nat.mul_mod_mul_left]
  have lt : 2 ^ (32 - n) * (x % 2 ^ n) + x / 2 ^ n < 2 ^ 32 := by
    have : 2 ^ (32 - n) * (x % 2 ^ n) + 2 ^ (32 - n) ≤ 2 ^ (32 - n) * 2 ^ n := by
      rw [← Nat.mul_succ]; exact Nat.mul_le_mul_left _ r
    rw [e, Nat.mul_comm (2 ^ n)]; omega
  have q := (Go.bits_nat .u32 32 (by decide) (fun n h0 h1 => by rw [Go.IntKind.wrap_u32]; exact Int.emod_eq_of_lt h0 (by simpa using h1)) (2 ^ (32 - n) * (x % 2 ^ n)) (x / 2 ^ n) (by omega) (by omega)).2
  rw [m, q, ← Nat.two_pow_add_eq_or_of_lt d]
  unfold rotr
  push_cast
  rw [Int.mul_comm ((2 : Int) ^ (32 - n)), Int.add_comm]
theorem rotr_range (x : Int) (n : Nat) (h : 0 ≤ x ∧ x < 4294967296) (h0 : 0 < n) (h1 : n < 32) : 0 ≤ rotr x n ∧ rotr x n < 4294967296 := by
  obtain ⟨y, rfl⟩ := Int.eq_ofNat_of_zero_le h.1
  rw [← rot_or y n (by simpa using (by omega : y < 4294967296)) h0 h1]
  have := bits_lo_u32 .or ((y * 2 ^ (32 - n) % 2 ^ 32 : Nat) : Int) ((y / 2 ^ n : Nat) : Int)
  have := bits_hi_u32 .or ((y * 2 ^ (32 - n) % 2 ^ 32 : Nat) : Int) ((y / 2 ^ n : Nat) : Int)
  omega
theorem rt_of (x : Int) (n s : Nat) (h : 0 ≤ x ∧ x < 4294967296) (hn : 0 < n) (hn2 : n < 32) (e1 : Go.bits .and .u64 (IntKind.u64.wrap (wrap64 (-(n : Int)))) 31 = (s : Int)) (e2 : IntKind.u64.wrap (32 - (s : Int)) = (n : Int)) (hs : s = 32 - n) : rt x n = rotr x n := by
  obtain ⟨y, rfl⟩ := Int.eq_ofNat_of_zero_le h.1
  unfold rt impl_right.f bits_RotateLeft32.f
  rw [e1, e2, if_pos (by omega), if_pos (by omega)]
  show Go.bits .or .u32 (shl .u32 y s) (shr .u32 y n) = _
  rw [← rot_or y n (by simpa using (by omega : y < 4294967296)) hn hn2]
  congr 1
  · unfold shl
    rw [Int.toNat_natCast, Nat.min_eq_left (show s ≤ IntKind.u32.bits by rw [show IntKind.u32.bits = 32 from rfl]; omega), IntKind.wrap_u32, hs, show ((2 : Nat) ^ 32) = 4294967296 from rfl, Int.natCast_emod, Int.natCast_mul, Int.natCast_pow]
    rfl
  · unfold shr
    rw [Int.toNat_natCast, Nat.min_eq_left (show n ≤ IntKind.u32.bits by rw [show IntKind.u32.bits = 32 from rfl]; omega)]
    push_cast
    rfl
theorem rt_eq (x : Int) (n : Nat) (h : 0 ≤ x ∧ x < 4294967296) (hn : n = 7 ∨ n = 18 ∨ n = 17 ∨ n = 19 ∨ n = 6 ∨ n = 11 ∨ n = 25 ∨ n = 2 ∨ n = 13 ∨ n = 22) : rt x n = rotr x n := by
  rcases hn with rfl | rfl | rfl | rfl | rfl | rfl | rfl | rfl | rfl | rfl
  · exact rt_of x 7 25 h (by decide) (by decide) (by decide +kernel) (by decide +kernel) rfl
  · exact rt_of x 18 14 h (by decide) (by decide) (by decide +kernel) (by decide +kernel) rfl
  · exact rt_of x 17 15 h (by decide) (by decide) (by decide +kernel) (by decide +kernel) rfl
  · exact rt_of x 19 13 h (by decide) (by decide) (by decide +kernel) (by decide +kernel) rfl
  · exact rt_of x 6 26 h (by decide) (by decide) (by decide +kernel) (by decide +kernel) rfl
  · exact rt_of x 11 21 h (by decide) (by decide) (by decide +kernel) (by decide +kernel) rfl
  · exact rt_of x 25 7 h (by decide) (by decide) (by decide +kernel) (by decide +kernel) rfl
  · exact rt_of x 2 30 h (by decide) (by decide) (by decide +kernel) (by decide +kernel) rfl
  · exact rt_of x 13 19 h (by decide) (by decide) (by decide +kernel) (by decide +kernel) rfl
  · exact rt_of x 22 10 h (by decide) (by decide) (by decide +kernel) (by decide +kernel) rfl
/-- A word within its bounds. -/
def w32 (x : Int) : Prop := 0 ≤ x ∧ x < 4294967296
theorem w32_mod (x : Int) : w32 (x % 4294967296) := ⟨by omega, by omega⟩
theorem not32 (x : Int) (h : w32 x) : Go.bits .xor .u32 IntKind.u32.max x = 4294967295 - x := by
  obtain ⟨y, rfl⟩ := Int.eq_ofNat_of_zero_le h.1
  have hy : y < 4294967296 := by have := h.2; omega
  unfold Go.bits
  rw [show IntKind.u32.max = 4294967295 by decide]
  have e : ((BitVec.ofInt IntKind.u32.bits 4294967295 ^^^ BitVec.ofInt IntKind.u32.bits (y : Int)).toNat : Int) = 4294967295 - (y : Int) := by
    rw [show IntKind.u32.bits = 32 from rfl, show BitVec.ofInt 32 4294967295 = BitVec.allOnes 32 by decide, BitVec.allOnes_xor, BitVec.toNat_not, BitVec.toNat_ofInt]
    omega
  simp only [e, IntKind.wrap_u32]
  omega
/-- A word of four bytes. -/
def wd (s : ByteArray) (i : Nat) : Int := ((bt s ((4 * i : Nat) : Int) * 256 + bt s ((4 * i + 1 : Nat) : Int)) * 256 + bt s ((4 * i + 2 : Nat) : Int)) * 256 + bt s ((4 * i + 3 : Nat) : Int)
theorem wd_range (s : ByteArray) (i : Nat) : w32 (wd s i) := by
  have h0 := bt_range s ((4 * i : Nat) : Int)
  have h1 := bt_range s ((4 * i + 1 : Nat) : Int)
  have h2 := bt_range s ((4 * i + 2 : Nat) : Int)
  have h3 := bt_range s ((4 * i + 3 : Nat) : Int)
  unfold w32 wd
  omega
theorem or_byte (x z : Int) (hx : w32 x) (hz : 0 ≤ z ∧ z ≤ 255) : Go.bits .or .u32 (x * 256 % 4294967296) z = x * 256 % 4294967296 + z := by
  refine bits_join .u32 32 (by decide) (fun n h0 h1 => by rw [IntKind.wrap_u32]; exact Int.emod_eq_of_lt h0 (by simpa using h1)) 8 _ _ (by omega) ?_ ?_ hz.1 ?_ ?_
  · rw [show (2 : Int) ^ 8 = 256 by decide]; omega
  · rw [show (2 : Int) ^ 32 = 4294967296 by decide]; omega
  · rw [show (2 : Int) ^ 8 = 256 by decide]; omega
  · rw [show (2 : Int) ^ 32 = 4294967296 by decide]; omega
def gTo (z : List Int) (s : ByteArray) : Nat → List Int
  | 0 => z
  | i + 1 => tsStep s (gTo z s i) i
theorem wTo_g (s : ByteArray) : ∀ i, wTo s i = gTo zero64 s i
  | 0 => rfl
  | i + 1 => by show tsStep s (wTo s i) i = tsStep s (gTo zero64 s i) i; rw [wTo_g s i]
theorem tsTo_g (s : ByteArray) : ∀ i, tsTo s i = gTo (List.replicate 8 0) s i
  | 0 => rfl
  | i + 1 => by show tsStep s (tsTo s i) i = tsStep s (gTo _ s i) i; rw [tsTo_g s i]
theorem gTo_4 (z : List Int) (s : ByteArray) (i : Nat) (l : List Int) (r : List Int) (hl : l.length = i) (h : gTo z s (4 * i) = l ++ 0 :: r) : gTo z s (4 * (i + 1)) = l ++ wd s i :: r := by
  have st : ∀ (x : Int) (j : Nat), j < 4 → w32 x → gTo z s (4 * i + j) = l ++ x :: r → gTo z s (4 * i + j + 1) = l ++ (x * 256 % 4294967296 + bt s ((4 * i + j : Nat) : Int)) :: r := by
    intro x j hj hx hg
    show tsStep s (gTo z s (4 * i + j)) (4 * i + j) = _
    rw [hg]
    unfold tsStep
    rw [show (4 * i + j) / 4 = i by omega, ← hl]
    have e : (l ++ x :: r).getD l.length 0 = x := by simp
    rw [e, or_byte x _ hx (bt_range s _), List.set_append_right _ _ (Nat.le_refl _), Nat.sub_self]
    rfl
  have h0 := bt_range s ((4 * i : Nat) : Int)
  have h1 := bt_range s ((4 * i + 1 : Nat) : Int)
  have h2 := bt_range s ((4 * i + 2 : Nat) : Int)
  have h3 := bt_range s ((4 * i + 3 : Nat) : Int)
  have s1 := st 0 0 (by decide) (by unfold w32; omega) h
  have s2 := st _ 1 (by decide) (by unfold w32; simp only [Nat.add_zero]; omega) s1
  have s3 := st _ 2 (by decide) (by unfold w32; simp only [Nat.add_zero]; omega) s2
  have s4 := st _ 3 (by decide) (by unfold w32; simp only [Nat.add_zero]; omega) s3
  rw [show 4 * (i + 1) = 4 * i + 3 + 1 by omega, s4]
  congr 2
  unfold wd
  simp only [Nat.add_zero]
  omega
theorem gTo_words (s : ByteArray) (m : Nat) : ∀ i, i ≤ m → gTo (List.replicate m 0) s (4 * i) = (List.range i).map (wd s) ++ List.replicate (m - i) 0
  | 0, _ => by simp [gTo]
  | i + 1, h => by
    have e : List.replicate (m - i) (0 : Int) = 0 :: List.replicate (m - (i + 1)) 0 := by rw [show m - i = (m - (i + 1)) + 1 by omega, List.replicate_succ]
    rw [gTo_4 _ s i ((List.range i).map (wd s)) (List.replicate (m - (i + 1)) 0) (by simp) (by rw [gTo_words s m i (by omega), e]), List.range_succ, List.map_append, List.append_assoc]
    rfl
theorem txState_eq (s : ByteArray) : txState s = (List.range 8).map (wd s) := by
  unfold txState
  rw [tsTo_g, show (32 : Nat) = 4 * 8 from rfl, gTo_words s 8 8 (by decide)]
  simp
theorem wTo_eq (s : ByteArray) : wTo s 64 = (List.range 16).map (wd s) ++ List.replicate 48 0 := by
  rw [wTo_g, show (64 : Nat) = 4 * 16 from rfl]
  exact gTo_words s 64 16 (by decide)
end Go.Proofs.YtlddohppkcndjaaDoor.Sha
namespace Go.Proofs.YtlddohppkcndjaaDoor.Sha
open Go.RowKit Go.Proofs.YtlddohppkcndjaaDoorW.PrintWords Go.Proofs.YtlddohppkcndjaaDoorW.PrintLast Go.Proofs.YtlddohppkcndjaaDoorW.PrintMore Go.Proofs.YtlddohppkcndjaaDoor.Pending Go.Proofs.YtlddohppkcndjaaDoor.Pright Go.Proofs.YtlddohppkcndjaaDoor.PHashMore
set_option linter.unusedVariables false
set_option linter.unusedSimpArgs false

theorem spec_right (x : Int) (hx : w32 x) (n : Nat) (a b : Int) (h0 : 0 < n) (h1 : n < 32) (ha : a = 2 ^ n) (hb : b = 2 ^ (32 - n)) : spec_l05Right.f x a b = some (rotr x n) := by
  have r := rotr_range x n hx h0 h1
  have hp : (0 : Int) < 2 ^ n := by have := Nat.two_pow_pos n; exact_mod_cast this
  unfold spec_l05Right.f
  rw [if_neg (by omega), Int.tdiv_eq_ediv_of_nonneg hx.1, Int.tmod_eq_emod_of_nonneg hx.1, ← Int.add_emod, ha, hb]
  show some (rotr x n % 4294967296) = _
  rw [Int.emod_eq_of_lt r.1 r.2]
theorem S1 (x : Int) (hx : w32 x) : spec_l05S.f x 131072 524288 1024 true = some (sg1 x) := by
  unfold spec_l05S.f sg1
  rw [if_neg (by decide), show (Int.tdiv 2147483648 131072 % 4294967296 * 2) % 4294967296 = 32768 by decide +kernel, spec_right x hx 17 _ _ (by decide) (by decide) (by decide +kernel) (by decide +kernel)]
  simp only [Option.bind_some]
  rw [if_neg (by decide), show (Int.tdiv 2147483648 524288 % 4294967296 * 2) % 4294967296 = 8192 by decide +kernel, spec_right x hx 19 _ _ (by decide) (by decide) (by decide +kernel) (by decide +kernel)]
  simp only [Option.bind_some]
  rw [if_neg (by decide), if_pos trivial, Int.tdiv_eq_ediv_of_nonneg hx.1, show rt x 17 = rotr x 17 from rt_eq x 17 hx (by omega), show rt x 19 = rotr x 19 from rt_eq x 19 hx (by omega), show x / 1024 % 4294967296 = x / 1024 by have := hx.1; have := hx.2; omega]
theorem S0 (x : Int) (hx : w32 x) : spec_l05S.f x 128 262144 8 true = some (sg0 x) := by
  unfold spec_l05S.f sg0
  rw [if_neg (by decide), show (Int.tdiv 2147483648 128 % 4294967296 * 2) % 4294967296 = 33554432 by decide +kernel, spec_right x hx 7 _ _ (by decide) (by decide) (by decide +kernel) (by decide +kernel)]
  simp only [Option.bind_some]
  rw [if_neg (by decide), show (Int.tdiv 2147483648 262144 % 4294967296 * 2) % 4294967296 = 16384 by decide +kernel, spec_right x hx 18 _ _ (by decide) (by decide) (by decide +kernel) (by decide +kernel)]
  simp only [Option.bind_some]
  rw [if_neg (by decide), if_pos trivial, Int.tdiv_eq_ediv_of_nonneg hx.1, show rt x 7 = rotr x 7 from rt_eq x 7 hx (by omega), show rt x 18 = rotr x 18 from rt_eq x 18 hx (by omega), show x / 8 % 4294967296 = x / 8 by have := hx.1; have := hx.2; omega]
theorem SE (x : Int) (hx : w32 x) : spec_l05S.f x 64 2048 33554432 false = some (Go.bits .xor .u32 (Go.bits .xor .u32 (rt x 6) (rt x 11)) (rt x 25)) := by
  unfold spec_l05S.f
  rw [if_neg (by decide), show (Int.tdiv 2147483648 64 % 4294967296 * 2) % 4294967296 = 67108864 by decide +kernel, spec_right x hx 6 _ _ (by decide) (by decide) (by decide +kernel) (by decide +kernel)]
  simp only [Option.bind_some]
  rw [if_neg (by decide), show (Int.tdiv 2147483648 2048 % 4294967296 * 2) % 4294967296 = 2097152 by decide +kernel, spec_right x hx 11 _ _ (by decide) (by decide) (by decide +kernel) (by decide +kernel)]
  simp only [Option.bind_some]
  rw [if_neg (by decide), if_neg (by decide), show (Int.tdiv 2147483648 33554432 % 4294967296 * 2) % 4294967296 = 128 by decide +kernel, spec_right x hx 25 _ _ (by decide) (by decide) (by decide +kernel) (by decide +kernel), show rt x 6 = rotr x 6 from rt_eq x 6 hx (by omega), show rt x 11 = rotr x 11 from rt_eq x 11 hx (by omega), show rt x 25 = rotr x 25 from rt_eq x 25 hx (by omega)]
  rfl
theorem SA (x : Int) (hx : w32 x) : spec_l05S.f x 4 8192 4194304 false = some (Go.bits .xor .u32 (Go.bits .xor .u32 (rt x 2) (rt x 13)) (rt x 22)) := by
  unfold spec_l05S.f
  rw [if_neg (by decide), show (Int.tdiv 2147483648 4 % 4294967296 * 2) % 4294967296 = 1073741824 by decide +kernel, spec_right x hx 2 _ _ (by decide) (by decide) (by decide +kernel) (by decide +kernel)]
  simp only [Option.bind_some]
  rw [if_neg (by decide), show (Int.tdiv 2147483648 8192 % 4294967296 * 2) % 4294967296 = 524288 by decide +kernel, spec_right x hx 13 _ _ (by decide) (by decide) (by decide +kernel) (by decide +kernel)]
  simp only [Option.bind_some]
  rw [if_neg (by decide), if_neg (by decide), show (Int.tdiv 2147483648 4194304 % 4294967296 * 2) % 4294967296 = 1024 by decide +kernel, spec_right x hx 22 _ _ (by decide) (by decide) (by decide +kernel) (by decide +kernel), show rt x 2 = rotr x 2 from rt_eq x 2 hx (by omega), show rt x 13 = rotr x 13 from rt_eq x 13 hx (by omega), show rt x 22 = rotr x 22 from rt_eq x 22 hx (by omega)]
  rfl
theorem spec_word (s : ByteArray) (i : Nat) (h : 4 * i + 4 ≤ s.size) (hs : s.size ≤ 1152921504606846975) : spec_l05Word.f s ((4 * i : Nat) : Int) = some (wd s i) := by
  have e1 : wrap64 (((4 * i : Nat) : Int) + 1) = ((4 * i + 1 : Nat) : Int) := by unfold wrap64; omega
  have e2 : wrap64 (((4 * i : Nat) : Int) + 2) = ((4 * i + 2 : Nat) : Int) := by unfold wrap64; omega
  have e3 : wrap64 (((4 * i : Nat) : Int) + 3) = ((4 * i + 3 : Nat) : Int) := by unfold wrap64; omega
  have h0 := bt_range s ((4 * i : Nat) : Int)
  have h1 := bt_range s ((4 * i + 1 : Nat) : Int)
  have h2 := bt_range s ((4 * i + 2 : Nat) : Int)
  have h3 := bt_range s ((4 * i + 3 : Nat) : Int)
  unfold spec_l05Word.f
  rw [e1, e2, e3]
  rw [if_pos (by omega), if_pos (by omega), if_pos (by omega), if_pos (by omega), if_pos (by omega), if_pos (by omega), if_pos (by omega), if_pos (by omega)]
  unfold wd
  congr 1
  generalize bt s ((4 * i : Nat) : Int) = b0 at *
  generalize bt s ((4 * i + 1 : Nat) : Int) = b1 at *
  generalize bt s ((4 * i + 2 : Nat) : Int) = b2 at *
  generalize bt s ((4 * i + 3 : Nat) : Int) = b3 at *
  clear e1 e2 e3
  omega
theorem spec_words (s : ByteArray) (n : Nat) (hn : s.size = 4 * n) (hs : s.size ≤ 1048576) : ∀ (d K i : Nat), i + d = n → d + 1 ≤ K → spec_l05Words.l0 K s ((List.range i).map (wd s)) ((4 * i : Nat) : Int) = some ((List.range n).map (wd s)) := by
  intro d
  induction d with
  | zero =>
    intro K i h hK
    obtain ⟨K, rfl⟩ : ∃ m, K = m + 1 := ⟨K - 1, by omega⟩
    have e1 : wrap64 (((4 * i : Nat) : Int) + 4) = ((4 * i + 4 : Nat) : Int) := by unfold wrap64; omega
    rw [spec_l05Words.l0, e1, if_neg (by omega), show i = n by omega]
  | succ d ih =>
    intro K i h hK
    obtain ⟨K, rfl⟩ : ∃ m, K = m + 1 := ⟨K - 1, by omega⟩
    have e1 : wrap64 (((4 * i : Nat) : Int) + 4) = ((4 * (i + 1) : Nat) : Int) := by unfold wrap64; omega
    rw [spec_l05Words.l0, e1, if_pos (by omega), spec_word s i (by omega) (by omega)]
    simp only [Option.bind_some]
    rw [if_pos (by rw [List.length_map, List.length_range]; omega)]
    have := ih K (i + 1) (by omega) (by omega)
    rw [List.range_succ, List.map_append] at this
    exact this
theorem spec_Words_f (s : ByteArray) (n K : Nat) (hn : s.size = 4 * n) (hs : s.size ≤ 1048576) (hK : n + 1 ≤ K) : spec_l05Words.f K s = some ((List.range n).map (wd s)) := spec_words s n hn hs n K 0 (by omega) (by omega)
end Go.Proofs.YtlddohppkcndjaaDoor.Sha
namespace Go.Proofs.YtlddohppkcndjaaDoor.Sha
open Go.RowKit Go.Proofs.YtlddohppkcndjaaDoorW.PrintWords Go.Proofs.YtlddohppkcndjaaDoorW.PrintLast Go.Proofs.YtlddohppkcndjaaDoorW.PrintMore Go.Proofs.YtlddohppkcndjaaDoor.Pending Go.Proofs.YtlddohppkcndjaaDoor.Pright Go.Proofs.YtlddohppkcndjaaDoor.PHashMore
set_option linter.unusedVariables false
set_option linter.unusedSimpArgs false

def val (l : List Int) (u : Nat) : Int := (sg1 (l.getD (u + 14) 0) + l.getD (u + 9) 0 + sg0 (l.getD (u + 1) 0) + l.getD u 0) % 4294967296
def exN (w : List Int) : Nat → List Int
  | 0 => w
  | u + 1 => exN w u ++ [val (exN w u) u]
theorem exN_len (w : List Int) (h : w.length = 16) : ∀ u, (exN w u).length = 16 + u
  | 0 => h
  | u + 1 => by simp only [exN, List.length_append, exN_len w h u, List.length_cons, List.length_nil]; omega
theorem exN_range (w : List Int) (h : ∀ x ∈ w, w32 x) : ∀ u, ∀ x ∈ exN w u, w32 x
  | 0 => h
  | u + 1 => fun x hx => by
    rcases List.mem_append.1 hx with h1 | h1
    · exact exN_range w h u x h1
    · rw [List.mem_singleton] at h1
      rw [h1]
      exact w32_mod _
theorem getD_w32 {l : List Int} (h : ∀ x ∈ l, w32 x) (i : Nat) : w32 (l.getD i 0) := by
  rw [List.getD_eq_getElem?_getD]
  cases hg : l[i]? with
  | none => exact ⟨by decide, by decide⟩
  | some x => exact h x (List.mem_of_getElem? hg)
theorem exTo_exN (w : List Int) (h : w.length = 16) : ∀ u, u ≤ 48 → exTo (w ++ List.replicate 48 0) u = exN w u ++ List.replicate (48 - u) 0
  | 0, _ => rfl
  | u + 1, hu => by
    show exStep (exTo _ u) u = _
    rw [exTo_exN w h u (by omega)]
    have hl := exN_len w h u
    have e : List.replicate (48 - u) (0 : Int) = 0 :: List.replicate (48 - (u + 1)) 0 := by rw [show 48 - u = (48 - (u + 1)) + 1 by omega, List.replicate_succ]
    have g : ∀ i, i < 16 + u → (exN w u ++ List.replicate (48 - u) 0).getD i 0 = (exN w u).getD i 0 := by
      intro i hi
      rw [List.getD_eq_getElem?_getD, List.getD_eq_getElem?_getD, List.getElem?_append_left (by omega)]
    unfold exStep
    rw [g _ (by omega), g _ (by omega), g _ (by omega), g _ (by omega), List.set_append_right _ _ (by omega), hl, show u + 16 - (16 + u) = 0 by omega, e]
    show exN w u ++ (val (exN w u) u :: _) = (exN w u ++ [val (exN w u) u]) ++ _
    simp
theorem spec_l0 (x0 x1 w : List Int) (hw : w.length = 16) (hr : ∀ x ∈ w, w32 x) : ∀ (d K u : Nat), u + d = 48 → spec_l05Round.l0 (K + d + 1) x0 x1 (exN w u) ((u + 16 : Nat) : Int) = if x0.length < 35184372088832 then spec_l05Round.l1 K x0 x1 (exN w 48) x0 0 else none := by
  intro d
  induction d with
  | zero =>
    intro K u h
    obtain rfl : u = 48 := by omega
    rw [spec_l05Round.l0, if_neg (by decide)]
    simp only [Option.bind_some, List.length_nil, Nat.zero_add, List.nil_append]
  | succ d ih =>
    intro K u h
    have hl := exN_len w hw u
    have hx := exN_range w hr u
    have e1 : wrap64 (((u + 16 : Nat) : Int) - 2) = ((u + 14 : Nat) : Int) := by unfold wrap64; omega
    have e2 : wrap64 (((u + 16 : Nat) : Int) - 7) = ((u + 9 : Nat) : Int) := by unfold wrap64; omega
    have e3 : wrap64 (((u + 16 : Nat) : Int) - 15) = ((u + 1 : Nat) : Int) := by unfold wrap64; omega
    have e4 : wrap64 (((u + 16 : Nat) : Int) - 16) = ((u : Nat) : Int) := by unfold wrap64; omega
    have e5 : wrap64 (((u + 16 : Nat) : Int) + 1) = ((u + 1 + 16 : Nat) : Int) := by unfold wrap64; omega
    rw [show K + (d + 1) + 1 = (K + d + 1) + 1 by omega, spec_l05Round.l0, e1, e2, e3, e4, e5]
    have r : ∀ i : Nat, rd (exN w u) (i : Int) = (exN w u).getD i 0 := fun i => by unfold rd; rw [Int.toNat_natCast]
    simp only [r]
    rw [if_pos (by omega), if_pos (by omega), if_pos (by omega), S1 _ (getD_w32 hx _)]
    simp only [Option.bind_some]
    rw [if_pos (by omega), if_pos (by omega), if_pos (by omega), if_pos (by omega), S0 _ (getD_w32 hx _)]
    simp only [Option.bind_some]
    rw [if_pos (by omega), if_pos (by omega), if_pos (by omega)]
    have ev : (((sg1 ((exN w u).getD (u + 14) 0) + (exN w u).getD (u + 9) 0) % 4294967296 + sg0 ((exN w u).getD (u + 1) 0)) % 4294967296 + (exN w u).getD u 0) % 4294967296 = val (exN w u) u := by
      unfold val
      generalize sg1 ((exN w u).getD (u + 14) 0) = a1
      generalize (exN w u).getD (u + 9) 0 = a2
      generalize sg0 ((exN w u).getD (u + 1) 0) = a3
      generalize (exN w u).getD u 0 = a4
      omega
    rw [ev]
    exact ih K (u + 1) (by omega)
theorem spec_l2 (K : Nat) (x0 x1 x7 : List Int) (a b c d e f g h t t1 t2 : Int) (ht : 0 ≤ t ∧ t < 64) : spec_l05Round.l2 (K + 8) x0 x1 x7 [a, b, c, d, e, f, g, h] t t1 t2 7 = spec_l05Round.l1 K x0 x1 x7 [(t1 + t2) % 4294967296, a, b, c, (d + t1) % 4294967296, e, f, g] (t + 1) := by
  have e : wrap64 (t + 1) = t + 1 := by unfold wrap64; omega
  simp [spec_l05Round.l2, rd, e, wrap64]
theorem spec_l3 (K : Nat) (a b c d e f g h a' b' c' d' e' f' g' h' : Int) : spec_l05Round.l3 (K + 9) [a, b, c, d, e, f, g, h] [a', b', c', d', e', f', g', h'] [] 0 = some [(a + a') % 4294967296, (b + b') % 4294967296, (c + c') % 4294967296, (d + d') % 4294967296, (e + e') % 4294967296, (f + f') % 4294967296, (g + g') % 4294967296, (h + h') % 4294967296] := by
  simp [spec_l05Round.l3, rd, wrap64]
theorem addTo_eq (a b c d e f g h a' b' c' d' e' f' g' h' : Int) : addTo [a', b', c', d', e', f', g', h'] [a, b, c, d, e, f, g, h] 8 = [(a + a') % 4294967296, (b + b') % 4294967296, (c + c') % 4294967296, (d + d') % 4294967296, (e + e') % 4294967296, (f + f') % 4294967296, (g + g') % 4294967296, (h + h') % 4294967296] := by
  simp [addTo, Int.add_comm]
end Go.Proofs.YtlddohppkcndjaaDoor.Sha
namespace Go.Proofs.YtlddohppkcndjaaDoor.Sha
open Go.RowKit Go.Proofs.YtlddohppkcndjaaDoorW.PrintWords Go.Proofs.YtlddohppkcndjaaDoorW.PrintLast Go.Proofs.YtlddohppkcndjaaDoorW.PrintMore Go.Proofs.YtlddohppkcndjaaDoor.Pending Go.Proofs.YtlddohppkcndjaaDoor.Pright Go.Proofs.YtlddohppkcndjaaDoor.PHashMore
set_option linter.unusedVariables false
set_option linter.unusedSimpArgs false

theorem rnd_range (k w : Int) (l : List Int) (h : ∀ x ∈ l, w32 x) : ∀ x ∈ rnd k w l, w32 x := by
  unfold rnd
  split
  · intro x hx
    simp only [List.mem_cons, List.not_mem_nil, or_false] at hx h
    rcases hx with rfl | rfl | rfl | rfl | rfl | rfl | rfl | rfl
    · exact w32_mod _
    · exact h _ (by simp)
    · exact h _ (by simp)
    · exact h _ (by simp)
    · exact w32_mod _
    · exact h _ (by simp)
    · exact h _ (by simp)
    · exact h _ (by simp)
  · exact h
theorem rnds_range (w st : List Int) (h : ∀ x ∈ st, w32 x) : ∀ t, ∀ x ∈ rnds w st t, w32 x
  | 0 => h
  | t + 1 => rnd_range _ _ _ (rnds_range w st h t)
theorem spec_l1_step (K : Nat) (x0 x7 l : List Int) (hl : l.length = 8) (hr : ∀ x ∈ l, w32 x) (t : Nat) (ht : t < 64) (h7 : x7.length = 64) : spec_l05Round.l1 (K + 9) x0 keys x7 l (t : Int) = spec_l05Round.l1 K x0 keys x7 (rnd (keys.getD t 0) (x7.getD t 0) l) ((t + 1 : Nat) : Int) := by
  obtain ⟨a, b, c, d, e, f, g, h, rfl⟩ := arr8 l hl
  have he : w32 e := hr e (by simp)
  have ha : w32 a := hr a (by simp)
  have n1 := not32 e he
  have n2 : (4294967295 - e) % 4294967296 = 4294967295 - e := by have := he.1; have := he.2; omega
  have hk : keys.length = 64 := rfl
  have r1 : rd keys (t : Int) = keys.getD t 0 := by unfold rd; rw [Int.toNat_natCast]
  have r7 : rd x7 (t : Int) = x7.getD t 0 := by unfold rd; rw [Int.toNat_natCast]
  have g0 : rd [a, b, c, d, e, f, g, h] 0 = a := rfl
  have g1 : rd [a, b, c, d, e, f, g, h] 1 = b := rfl
  have g2 : rd [a, b, c, d, e, f, g, h] 2 = c := rfl
  have g4 : rd [a, b, c, d, e, f, g, h] 4 = e := rfl
  have g5 : rd [a, b, c, d, e, f, g, h] 5 = f := rfl
  have g6 : rd [a, b, c, d, e, f, g, h] 6 = g := rfl
  have g7 : rd [a, b, c, d, e, f, g, h] 7 = h := rfl
  have hlen : ([a, b, c, d, e, f, g, h].length : Int) = 8 := rfl
  have hkl : (keys.length : Int) = 64 := rfl
  have h7l : (x7.length : Int) = 64 := by omega
  rw [show K + 9 = (K + 8) + 1 by omega, spec_l05Round.l1]
  simp only [r1, r7, g0, g1, g2, g4, g5, g6, g7, hlen, hkl, h7l, n2]
  rw [if_pos (by omega), if_pos (by decide), if_pos (by decide), if_pos (by decide), if_pos (by decide), SE e he]
  simp only [Option.bind_some]
  rw [if_pos (by omega), if_pos (by omega), if_pos (by omega), if_pos (by decide), if_pos (by decide), if_pos (by decide), SA a ha]
  simp only [Option.bind_some]
  rw [spec_l2 K x0 keys x7 a b c d e f g h t _ _ ⟨by omega, by omega⟩]
  unfold rnd
  simp only [n1]
  generalize Go.bits .xor .u32 (Go.bits .xor .u32 (rt e 6) (rt e 11)) (rt e 25) = q1
  generalize Go.bits .xor .u32 (Go.bits .and .u32 e f) (Go.bits .and .u32 (4294967295 - e) g) = q2
  generalize Go.bits .xor .u32 (Go.bits .xor .u32 (rt a 2) (rt a 13)) (rt a 22) = q3
  generalize Go.bits .xor .u32 (Go.bits .xor .u32 (Go.bits .and .u32 a b) (Go.bits .and .u32 a c)) (Go.bits .and .u32 b c) = q4
  generalize keys.getD t 0 = q5
  generalize x7.getD t 0 = q6
  have e1 : (((((h + q1) % 4294967296 + q2) % 4294967296 + q5) % 4294967296 + q6) % 4294967296 + (q3 + q4) % 4294967296) % 4294967296 = (h + q1 + q2 + q5 + q6 + (q3 + q4)) % 4294967296 := by omega
  have e2 : (d + ((((h + q1) % 4294967296 + q2) % 4294967296 + q5) % 4294967296 + q6) % 4294967296) % 4294967296 = (d + (h + q1 + q2 + q5 + q6)) % 4294967296 := by omega
  rw [e1, e2]
  rfl
theorem spec_l1 (x0 x7 : List Int) (h0 : x0.length = 8) (hr : ∀ x ∈ x0, w32 x) (h7 : x7.length = 64) : ∀ (d K t : Nat), t + d = 64 → spec_l05Round.l1 (K + 9 * d + 1) x0 keys x7 (rnds x7 x0 t) (t : Int) = spec_l05Round.l3 K x0 (rnds x7 x0 64) [] 0 := by
  intro d
  induction d with
  | zero =>
    intro K t h
    obtain rfl : t = 64 := by omega
    rw [Nat.mul_zero, Nat.add_zero, spec_l05Round.l1, if_neg (by decide)]
  | succ d ih =>
    intro K t h
    rw [show K + 9 * (d + 1) + 1 = (K + 9 * d + 1) + 9 by omega, spec_l1_step _ x0 x7 _ (rnds_len x7 x0 h0 t) (rnds_range x7 x0 hr t) t (by omega) h7]
    exact ih K (t + 1) (by omega)
theorem wds_exN (s : ByteArray) : exN ((List.range 16).map (wd s)) 48 = wds s := by
  unfold wds
  rw [wTo_eq, exTo_exN _ (by simp) 48 (Nat.le_refl _), Nat.sub_self, List.replicate_zero, List.append_nil]
theorem round_b (st w : List Int) (K : Nat) (h3 : (rnds w st 64).length = 8) (hl : st.length = 8) : spec_l05Round.l3 (K + 9) st (rnds w st 64) [] 0 = some (addTo (rnds w st 64) st 8) := by
  generalize rnds w st 64 = q at *
  obtain ⟨a', b', c', d', e', f', g', h', rfl⟩ := arr8 _ h3
  obtain ⟨a, b, c, d, e, f, g, h, rfl⟩ := arr8 st hl
  rw [addTo_eq, spec_l3]
theorem round_a (st w : List Int) (K : Nat) (hl : st.length = 8) (hr : ∀ x ∈ st, w32 x) (hw : w.length = 64) : spec_l05Round.l1 (K + 9 + 9 * 64 + 1) st keys w st 0 = some (addTo (rnds w st 64) st 8) := by
  have e2 := spec_l1 st w hl hr hw 64 (K + 9) 0 (Nat.zero_add _)
  rw [round_b st w K (rnds_len w st hl 64) hl] at e2
  exact e2
theorem round_0 (st w : List Int) (K : Nat) (hl : st.length = 8) (hr : ∀ x ∈ st, w32 x) (hw : w.length = 16) (hwr : ∀ x ∈ w, w32 x) : spec_l05Round.l0 (K + 9 + 9 * 64 + 1 + 48 + 1) st keys w 16 = some (addTo (rnds (exN w 48) st 64) st 8) := by
  have e := spec_l0 st keys w hw hwr 48 (K + 9 + 9 * 64 + 1) 0 (Nat.zero_add _)
  rw [if_pos (by omega), round_a st (exN w 48) K hl hr (by rw [exN_len w hw])] at e
  exact e
theorem spec_Round_f (st : List Int) (s : ByteArray) (K : Nat) (hl : st.length = 8) (hr : ∀ x ∈ st, w32 x) (hs : s.size = 64) (hK : 1000 ≤ K) : spec_l05Round.f K st keys s = some (one st s) := by
  have hw : ((List.range 16).map (wd s)).length = 16 := by rw [List.length_map, List.length_range]
  have hwr : ∀ x ∈ (List.range 16).map (wd s), w32 x := by
    intro x hx
    obtain ⟨i, _, rfl⟩ := List.mem_map.1 hx
    exact wd_range s i
  have h1 := spec_Words_f s 16 K hs (by omega) (by omega)
  have h2 : ∃ m, K = m + 9 + 9 * 64 + 1 + 48 + 1 := ⟨K - 635, by omega⟩
  unfold spec_l05Round.f
  rw [h1]
  obtain ⟨m, hm⟩ := h2
  rw [hm]
  have h3 := round_0 st _ m hl hr hw hwr
  rw [wds_exN] at h3
  unfold one
  exact (Option.bind_some _ _).trans h3
theorem one_range (st : List Int) (s : ByteArray) (hl : st.length = 8) : ∀ x ∈ one st s, w32 x := by
  obtain ⟨a', b', c', d', e', f', g', h', he⟩ := arr8 _ (rnds_len (wds s) st hl 64)
  unfold one
  rw [he]
  obtain ⟨a, b, c, d, e, f, g, h, rfl⟩ := arr8 st hl
  rw [addTo_eq]
  intro x hx
  simp only [List.mem_cons, List.not_mem_nil, or_false] at hx
  rcases hx with rfl | rfl | rfl | rfl | rfl | rfl | rfl | rfl <;> exact w32_mod _
theorem four_eq (x : Int) (h : w32 x) : [((Int.tdiv x 16777216) % 4294967296) % 256, ((Int.tdiv x 65536) % 4294967296) % 256, ((Int.tdiv x 256) % 4294967296) % 256, (Int.tmod x 256) % 256] = [(x / 16777216) % 256, (x / 65536) % 256, (x / 256) % 256, x % 256] := by
  have h0 := h.1
  have h1 := h.2
  rw [Int.tdiv_eq_ediv_of_nonneg h0, Int.tdiv_eq_ediv_of_nonneg h0, Int.tdiv_eq_ediv_of_nonneg h0, Int.tmod_eq_emod_of_nonneg h0]
  have e1 : x / 16777216 % 4294967296 % 256 = x / 16777216 % 256 := by omega
  have e2 : x / 65536 % 4294967296 % 256 = x / 65536 % 256 := by omega
  have e3 : x / 256 % 4294967296 % 256 = x / 256 % 256 := by omega
  have e4 : x % 256 % 256 = x % 256 := by omega
  rw [e1, e2, e3, e4]
theorem strOfNums_app (a b : List Int) : strOfNums (a ++ b) = strOfNums a ++ strOfNums b := by
  apply ByteArray.ext
  rw [ByteArray.data_append]
  apply Array.toList_inj.1
  rw [Array.toList_append, strOfNums_data, strOfNums_data, strOfNums_data, List.map_append]
theorem spec_Bytes_l0 (l : List Int) (hr : ∀ x ∈ l, w32 x) (hl : l.length ≤ 1000) : ∀ (d K i : Nat) (x3 : List Int), i + d = l.length → d + 1 ≤ K → x3.length = 4 * i → strOfNums x3 = stText (l.take i) → spec_l05Bytes.l0 K l x3 (i : Int) = some (stText l) := by
  intro d
  induction d with
  | zero =>
    intro K i x3 h hK h3 hx
    obtain ⟨K, rfl⟩ : ∃ m, K = m + 1 := ⟨K - 1, by omega⟩
    rw [spec_l05Bytes.l0, if_neg (by omega), hx, List.take_of_length_le (by omega)]
  | succ d ih =>
    intro K i x3 h hK h3 hx
    obtain ⟨K, rfl⟩ : ∃ m, K = m + 1 := ⟨K - 1, by omega⟩
    have hi : i < l.length := by omega
    have r : rd l (i : Int) = l.getD i 0 := by unfold rd; rw [Int.toNat_natCast]
    have e1 : wrap64 ((i : Int) + 1) = ((i + 1 : Nat) : Int) := by unfold wrap64; omega
    rw [spec_l05Bytes.l0, if_pos (by omega), if_pos (by omega), r, four_eq _ (getD_w32 hr i), e1]
    simp only [Option.bind_some]
    rw [if_pos (by simp only [List.length_cons, List.length_nil]; omega)]
    refine ih K (i + 1) _ (by omega) (by omega) (by simp only [List.length_append, List.length_cons, List.length_nil]; omega) ?_
    rw [strOfNums_app, hx, List.take_add_one, List.getElem?_eq_getElem hi]
    simp only [Option.toList]
    rw [stText_snoc, List.getD_eq_getElem?_getD, List.getElem?_eq_getElem hi]
    rfl
theorem spec_Bytes_f (l : List Int) (hr : ∀ x ∈ l, w32 x) (hl : l.length ≤ 1000) (K : Nat) (hK : l.length + 1 ≤ K) : spec_l05Bytes.f K l = some (stText l) :=
  spec_Bytes_l0 l hr hl l.length K 0 [] (by omega) hK rfl (by simp [stText]; rfl)
theorem bTo_range (st : List Int) (s : ByteArray) (h : st.length = 8) (hr : ∀ x ∈ st, w32 x) : ∀ k, ∀ x ∈ (bTo st s k).1, w32 x
  | 0 => hr
  | k + 1 => one_range _ _ (bTo_len st s h k)
theorem ex_ex (s : ByteArray) (a b : Nat) : (s.extract a s.size).extract b (s.extract a s.size).size = s.extract (a + b) s.size := by
  rw [ByteArray.extract_extract, ByteArray.size_extract]
  congr 1
  omega
theorem bTo_snd (st : List Int) (s : ByteArray) : ∀ k, (bTo st s k).2 = s.extract (64 * k) s.size
  | 0 => by show s = _; simp
  | k + 1 => by
    show (bTo st s k).2.extract 64 (bTo st s k).2.size = _
    rw [bTo_snd st s k, ex_ex]
    rfl
theorem ex_head (s : ByteArray) (a : Nat) (h : a + 64 ≤ s.size) : (s.extract a s.size).extract 0 64 = s.extract a (a + 64) := by
  rw [ByteArray.extract_extract]
  congr 1
  omega
theorem spec_loop (buf a1 x0 x1 : ByteArray) (c : Int) (st : List Int) (hst : st.length = 8) (hr : ∀ x ∈ st, w32 x) (hb : buf.size ≤ 2000000000) : ∀ (d K i : Nat), i + d = buf.size / 64 → spec_HashMore.l0 (K + 1000 + d + 1) a1 (bTo st buf i).1 keys buf ((64 * i : Nat) : Int) x0 x1 c = some (stText (blks st buf).1, (blks st buf).2, wrap64 (c + a1.size)) := by
  intro d
  induction d with
  | zero =>
    intro K i h
    obtain rfl : i = buf.size / 64 := by omega
    have e1 : wrap64 (((64 * (buf.size / 64) : Nat) : Int) + 64) = ((64 * (buf.size / 64) + 64 : Nat) : Int) := by unfold wrap64; omega
    have hB := spec_Bytes_f (bTo st buf (buf.size / 64)).1 (bTo_range st buf hst hr _) (by rw [bTo_len st buf hst]; decide) (K + 1000) (by rw [bTo_len st buf hst]; omega)
    rw [Nat.add_zero, spec_HashMore.l0, e1, if_neg (by omega), hB]
    refine (Option.bind_some _ _).trans ?_
    rw [if_pos (by omega), if_pos (by omega), Int.toNat_natCast]
    unfold blks
    rw [bTo_snd]
  | succ d ih =>
    intro K i h
    have hi : 64 * i + 64 ≤ buf.size := by omega
    have e1 : wrap64 (((64 * i : Nat) : Int) + 64) = ((64 * (i + 1) : Nat) : Int) := by unfold wrap64; omega
    have hsz : (buf.extract (64 * i) (64 * (i + 1))).size = 64 := by rw [ByteArray.size_extract]; omega
    have hR := spec_Round_f (bTo st buf i).1 (buf.extract (64 * i) (64 * (i + 1))) (K + 1000 + d + 1) (bTo_len st buf hst i) (bTo_range st buf hst hr i) hsz (by omega)
    rw [show K + 1000 + (d + 1) + 1 = (K + 1000 + d + 1) + 1 by omega, spec_HashMore.l0, e1, if_pos (by omega), if_pos (by omega), if_pos (by omega), Int.toNat_natCast, Int.toNat_natCast, hR]
    refine (Option.bind_some _ _).trans ?_
    have e2 : one (bTo st buf i).1 (buf.extract (64 * i) (64 * (i + 1))) = (bTo st buf (i + 1)).1 := by
      show _ = one (bTo st buf i).1 ((bTo st buf i).2.extract 0 64)
      rw [bTo_snd, ex_head buf _ hi]
      rfl
    rw [e2]
    exact ih K (i + 1) (by omega)
theorem txState_range (s : ByteArray) : ∀ x ∈ txState s, w32 x := by
  rw [txState_eq]
  intro x hx
  obtain ⟨i, _, rfl⟩ := List.mem_map.1 hx
  exact wd_range s i
theorem first8_range : ∀ x ∈ first8, w32 x := by
  intro x hx
  simp only [first8, List.mem_cons, List.not_mem_nil, or_false] at hx
  rcases hx with rfl | rfl | rfl | rfl | rfl | rfl | rfl | rfl <;> exact ⟨by decide, by decide⟩
theorem specOk_f (st r : ByteArray) (c : Int) : spec_HasherOk.f st r c = some (hOk st r c) := by
  unfold spec_HasherOk.f spec_l01In.f hOk
  by_cases h1 : st.size = 32
  · rw [if_pos (by omega)]
    by_cases h2 : 0 ≤ c
    · have e := Int.tmod_eq_emod_of_nonneg (b := 64) h2
      rw [e]
      by_cases h3 : c ≤ 1000000000
      · by_cases h4 : (r.size : Int) = c % 64
        · have h5 : (r.size : Int) < 64 := by omega
          simp [h1, h2, h3, h4, h5]
          omega
        · have h6 : ¬ (c % 64 = (r.size : Int)) := fun h => h4 h.symm
          by_cases h5 : (r.size : Int) < 64 <;> simp [h1, h2, h3, h4, h5, h6]
      · by_cases h5 : (r.size : Int) < 64 <;> simp [h1, h2, h3, h5]
    · by_cases h5 : (r.size : Int) < 64 <;> simp [h1, h2, h5]
  · rw [if_neg (by omega)]
    simp [h1]
theorem specHashMore_f (st r : ByteArray) (c : Int) (s : ByteArray) (hc : -9223372036854775808 ≤ c ∧ c ≤ 9223372036854775807) (hs : s.size ≤ 1152921504606846975) : spec_HashMore.f (1000 + (r.size + s.size) / 64 + 1 + 1) st r c s = some (hashMore st r c s) := by
  unfold spec_HashMore.f
  rw [specOk_f]
  refine (Option.bind_some _ _).trans ?_
  by_cases hok : hOk st r c = true
  · rw [if_pos hok, spec_HashMore.j0]
    have hok' := hok
    unfold hOk at hok'
    simp only [decide_eq_true_eq] at hok'
    obtain ⟨h32, h0, h9, h64⟩ := hok'
    have e1 : wrap64 (c + (s.size : Int)) = c + s.size := by unfold wrap64; omega
    rw [e1]
    by_cases hfit : (s.size : Int) ≤ 1000000000 - c
    · rw [if_neg (by simp only [decide_eq_true_eq]; omega)]
      have hW : spec_l05Words.f (1000 + (r.size + s.size) / 64 + 1) st = some (txState st) := by
        rw [spec_Words_f st 8 _ (by omega) (by omega) (by omega), txState_eq]
      rw [hW]
      refine (Option.bind_some _ _).trans ?_
      refine (Option.bind_some keys _).trans ?_
      rw [if_pos (by omega)]
      have hL := spec_loop (r ++ s) s st r c (txState st) (txState_len st) (txState_range st) (by rw [ByteArray.size_append]; omega) ((r.size + s.size) / 64) 0 0 (by rw [ByteArray.size_append]; omega)
      rw [Nat.zero_add 1000, show ((64 * 0 : Nat) : Int) = 0 from rfl, show bTo (txState st) (r ++ s) 0 = (txState st, r ++ s) from rfl] at hL
      have hm : hashMore st r c s = (stText (blks (txState st) (r ++ s)).1, (blks (txState st) (r ++ s)).2, c + s.size) := by unfold hashMore; rw [if_pos ⟨hok, hfit⟩]
      rw [hm, ← e1]
      rw [hL]
    · rw [if_pos (by simp only [decide_eq_true_eq]; omega)]
      unfold hashMore
      rw [if_neg (fun h => hfit h.2)]
  · rw [if_neg hok, spec_HashMore.j0, if_pos rfl]
    unfold hashMore
    rw [if_neg (fun h => hok h.1)]
/-- The document's HashMore, at every hasher and text. -/
theorem specHashMore_calls (st r : ByteArray) (c : Int) (s : ByteArray) (hc : -9223372036854775808 ≤ c ∧ c ≤ 9223372036854775807) (hs : s.size ≤ 1152921504606846975) (w : World) : Calls Tryd.prog 18 #[.agg #[.string st, .string r, .int .i64 c], .string s] w fun e_ w' => e_ = .returned (.agg #[.string (hashMore st r c s).1, .string (hashMore st r c s).2.1, .int .i64 (hashMore st r c s).2.2]) ∧ Below w.heap.size w w' :=
  spec_HashMore.calls _ st r c s _ _ _ w (specHashMore_f st r c s hc hs)
theorem gTabType : (Tryd.prog.globals[0]?).map (·.type) = some 101 := by kernel_rfl
theorem cells66 : Tryd.prog.cellsOf 66 = 1 := by kernel_rfl
theorem cells101 : Tryd.prog.cellsOf 101 = 64 := by kernel_rfl
theorem laidOut : laidOutB Tryd.prog = true := by kernel_rfl
/-- The program's own table reads behind a call as it did before. -/
theorem vars_stay {H : Type} {enc : TypeId × Value → H} {W W' : World} {gs : List (DataW H)} {ps : List MemPlace} (hV : DataW.TrodVars enc Tryd.prog W (fun _ => true) ["loop.example/g00186/impl.roundKeys"] gs ps) (hb : Below W.heap.size W W') :
    ∃ pv, DataW.TrodVars enc Tryd.prog W' (fun b => decide (b < W.heap.size)) ["loop.example/g00186/impl.roundKeys"] gs pv := by
  obtain ⟨g, t, cs, fuel, d, p, rfl, hg, ht, hv, hd, rfl⟩ := ChangeShapes.trodVars_one hV
  obtain rfl : g = 0 := Option.some.inj (hg.symm.trans gTab)
  obtain rfl : t = 101 := Option.some.inj (ht.symm.trans gTabType)
  have k : DataW.Trod enc Tryd.prog W 0 (fun _ => true) true 101 (.agg cs) d p := ⟨fuel, hd⟩
  obtain ⟨fuel', hd'⟩ := Below.trod laidOut (by kernel_rfl) (of_decide_eq_true (by kernel_rfl)) k hb (DataW.trod_lt _ _ _ _ hd)
  have hv' : W'.var? Tryd.prog "loop.example/g00186/impl.roundKeys" = some cs := by
    have hlt : 0 < W.heap.size := by
      unfold World.var? at hv
      rw [gTab] at hv
      simp only [Option.bind_some] at hv
      rcases Nat.lt_or_ge 0 W.heap.size with h' | h'
      · exact h'
      · rw [Array.getElem?_eq_none h'] at hv; simp at hv
    unfold World.var? at hv ⊢
    rw [gTab] at hv ⊢
    simp only [Option.bind_some] at hv ⊢
    rw [hb.block 0 hlt]
    exact hv
  exact ⟨_, ChangeShapes.trodVars_mk1 gTab gTabType hv' hd'⟩
end Go.Proofs.YtlddohppkcndjaaDoor.Sha
