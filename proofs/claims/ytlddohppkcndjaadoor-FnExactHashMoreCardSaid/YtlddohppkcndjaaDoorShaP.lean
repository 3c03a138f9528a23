/- The words of the document and the program's words are the same. -/
import Derived.Test.YtlddohppkcndjaaDoorShaH
namespace Go.Proofs.YtlddohppkcndjaaDoor.Sha
open Go.RowKit Go.Proofs.YtlddohppkcndjaaDoorW.PrintWords Go.Proofs.YtlddohppkcndjaaDoorW.PrintLast Go.Proofs.YtlddohppkcndjaaDoorW.PrintMore Go.Proofs.YtlddohppkcndjaaDoor.Pending Go.Proofs.YtlddohppkcndjaaDoor.Pright
set_option linter.unusedVariables false
set_option linter.unusedSimpArgs false

/-- x turned right by n bits -/
def rotr (x : Int) (n : Nat) : Int := x / 2 ^ n + x % 2 ^ n * 2 ^ (32 - n)
theorem rot_or (x n : Nat) (hx : x < 2 ^ 32) (h0 : 0 < n) (h1 : n < 32) : Go.bits .or .u32 ((x * 2 ^ (32 - n) % 2 ^ 32 : Nat) : Int) ((x / 2 ^ n : Nat) : Int) = rotr x n := by
  have e : (2 : Nat) ^ 32 = 2 ^ n * 2 ^ (32 - n) := by rw [← Nat.pow_add]; congr 1; omega
  have p0 : 0 < 2 ^ n := Nat.two_pow_pos n
  have p1 : 0 < 2 ^ (32 - n) := Nat.two_pow_pos _
  have d : x / 2 ^ n < 2 ^ (32 - n) := by
    rw [Nat.div_lt_iff_lt_mul p0, Nat.mul_comm]; omega
  have r : x % 2 ^ n < 2 ^ n := Nat.mod_lt _ p0
  have m : x * 2 ^ (32 - n) % 2 ^ 32 = 2 ^ (32 - n) * (x % 2 ^ n) := by
    rw [e, Nat.mul_comm (2 ^ n), Nat.mul_comm x, Nat.mul_mod_mul_left]
  have lt : 2 ^ (32 - n) * (x % 2 ^ n) + x / 2 ^ n < 2 ^ 32 := by
    have : 2 ^ (32 - n) * (x % 2 ^ n) + 2 ^ (32 - n) ≤ 2 ^ (32 - n) * 2 ^ n := by
      rw [← Nat.mul_succ]; exact Nat.mul_le_mul_left _ r
    rw [e, Nat.mul_comm (2 ^ n)]; omega
  have q := (Go.bits_nat .u32 32 (by decide) (fun n h0 h1 => by rw [Go.IntKind.wrap_u32]; exact Int.emod_eq_of_lt h0 (by simpa using h1)) (2 ^ (32 - n) * (x % 2 ^ n)) (x / 2 ^ n) (by omega) (by omega)).2
  rw [m, q, ← Nat.two_pow_add_eq_or_of_lt d]
  unfold rotr
  push_cast
  rw [Int.mul_comm ((2 : Int) ^ (32 - n)), Int.add_comm]
theorem rotr_range (x : Int) (n : Nat) (h : 0 ≤ x ∧ x < 4294967296) (h0 : 0 < n) (h1 : n < 32) : 0 ≤ rotr x n ∧ rotr x n < 4294967296 := by
  obtain ⟨y, rfl⟩ := Int.eq_ofNat_of_zero_le h.1
  rw [← rot_or y n (by simpa using (by omega : y < 4294967296)) h0 h1]
  have := bits_lo_u32 .or ((y * 2 ^ (32 - n) % 2 ^ 32 : Nat) : Int) ((y / 2 ^ n : Nat) : Int)
  have := bits_hi_u32 .or ((y * 2 ^ (32 - n) % 2 ^ 32 : Nat) : Int) ((y / 2 ^ n : Nat) : Int)
  omega
theorem rt_of (x : Int) (n s : Nat) (h : 0 ≤ x ∧ x < 4294967296) (hn : 0 < n) (hn2 : n < 32) (e1 : Go.bits .and .u64 (IntKind.u64.wrap (wrap64 (-(n : Int)))) 31 = (s : Int)) (e2 : IntKind.u64.wrap (32 - (s : Int)) = (n : Int)) (hs : s = 32 - n) : rt x n = rotr x n := by
  obtain ⟨y, rfl⟩ := Int.eq_ofNat_of_zero_le h.1
  unfold rt impl_right.f bits_RotateLeft32.f
  rw [e1, e2, if_pos (by omega), if_pos (by omega)]
  show Go.bits .or .u32 (shl .u32 y s) (shr .u32 y n) = _
  rw [← rot_or y n (by simpa using (by omega : y < 4294967296)) hn hn2]
  congr 1
  · unfold shl
    rw [Int.toNat_natCast, Nat.min_eq_left (show s ≤ IntKind.u32.bits by rw [show IntKind.u32.bits = 32 from rfl]; omega), IntKind.wrap_u32, hs, show ((2 : Nat) ^ 32) = 4294967296 from rfl, Int.natCast_emod, Int.natCast_mul, Int.natCast_pow]
    rfl
  · unfold shr
    rw [Int.toNat_natCast, Nat.min_eq_left (show n ≤ IntKind.u32.bits by rw [show IntKind.u32.bits = 32 from rfl]; omega)]
    push_cast
    rfl
theorem rt_eq (x : Int) (n : Nat) (h : 0 ≤ x ∧ x < 4294967296) (hn : n = 7 ∨ n = 18 ∨ n = 17 ∨ n = 19 ∨ n = 6 ∨ n = 11 ∨ n = 25 ∨ n = 2 ∨ n = 13 ∨ n = 22) : rt x n = rotr x n := by
  rcases hn with rfl | rfl | rfl | rfl | rfl | rfl | rfl | rfl | rfl | rfl
  · exact rt_of x 7 25 h (by decide) (by decide) (by decide +kernel) (by decide +kernel) rfl
  · exact rt_of x 18 14 h (by decide) (by decide) (by decide +kernel) (by decide +kernel) rfl
  · exact rt_of x 17 15 h (by decide) (by decide) (by decide +kernel) (by decide +kernel) rfl
  · exact rt_of x 19 13 h (by decide) (by decide) (by decide +kernel) (by decide +kernel) rfl
  · exact rt_of x 6 26 h (by decide) (by decide) (by decide +kernel) (by decide +kernel) rfl
  · exact rt_of x 11 21 h (by decide) (by decide) (by decide +kernel) (by decide +kernel) rfl
  · exact rt_of x 25 7 h (by decide) (by decide) (by decide +kernel) (by decide +kernel) rfl
  · exact rt_of x 2 30 h (by decide) (by decide) (by decide +kernel) (by decide +kernel) rfl
  · exact rt_of x 13 19 h (by decide) (by decide) (by decide +kernel) (by decide +kernel) rfl
  · exact rt_of x 22 10 h (by decide) (by decide) (by decide +kernel) (by decide +kernel) rfl
/-- A word within its bounds. -/
def w32 (x : Int) : Prop := 0 ≤ x ∧ x < 4294967296
theorem w32_bits (op : BinOp) (x y : Int) : w32 (Go.bits op .u32 x y) := ⟨bits_lo_u32 op x y, by have := bits_hi_u32 op x y; omega⟩
theorem w32_mod (x : Int) : w32 (x % 4294967296) := ⟨by omega, by omega⟩
theorem not32 (x : Int) (h : w32 x) : Go.bits .xor .u32 IntKind.u32.max x = 4294967295 - x := by
  obtain ⟨y, rfl⟩ := Int.eq_ofNat_of_zero_le h.1
  have hy : y < 4294967296 := by have := h.2; omega
  unfold Go.bits
  rw [show IntKind.u32.max = 4294967295 by decide]
  have e : ((BitVec.ofInt IntKind.u32.bits 4294967295 ^^^ BitVec.ofInt IntKind.u32.bits (y : Int)).toNat : Int) = 4294967295 - (y : Int) := by
    rw [show IntKind.u32.bits = 32 from rfl, show BitVec.ofInt 32 4294967295 = BitVec.allOnes 32 by decide, BitVec.allOnes_xor, BitVec.toNat_not, BitVec.toNat_ofInt]
    omega
  simp only [e, IntKind.wrap_u32]
  omega
/-- A word of four bytes. -/
def wd (s : ByteArray) (i : Nat) : Int := ((bt s ((4 * i : Nat) : Int) * 256 + bt s ((4 * i + 1 : Nat) : Int)) * 256 + bt s ((4 * i + 2 : Nat) : Int)) * 256 + bt s ((4 * i + 3 : Nat) : Int)
theorem wd_range (s : ByteArray) (i : Nat) : w32 (wd s i) := by
  have h0 := bt_range s ((4 * i : Nat) : Int)
  have h1 := bt_range s ((4 * i + 1 : Nat) : Int)
  have h2 := bt_range s ((4 * i + 2 : Nat) : Int)
  have h3 := bt_range s ((4 * i + 3 : Nat) : Int)
  unfold w32 wd
  omega
theorem or_byte (x z : Int) (hx : w32 x) (hz : 0 ≤ z ∧ z ≤ 255) : Go.bits .or .u32 (x * 256 % 4294967296) z = x * 256 % 4294967296 + z := by
  refine bits_join .u32 32 (by decide) (fun n h0 h1 => by rw [IntKind.wrap_u32]; exact Int.emod_eq_of_lt h0 (by simpa using h1)) 8 _ _ (by omega) ?_ ?_ hz.1 ?_ ?_
  · rw [show (2 : Int) ^ 8 = 256 by decide]; omega
  · rw [show (2 : Int) ^ 32 = 4294967296 by decide]; omega
  · rw [show (2 : Int) ^ 8 = 256 by decide]; omega
  · rw [show (2 : Int) ^ 32 = 4294967296 by decide]; omega
def gTo (z : List Int) (s : ByteArray) : Nat → List Int
  | 0 => z
  | i + 1 => tsStep s (gTo z s i) i
theorem wTo_g (s : ByteArray) : ∀ i, wTo s i = gTo zero64 s i
  | 0 => rfl
  | i + 1 => by show tsStep s (wTo s i) i = tsStep s (gTo zero64 s i) i; rw [wTo_g s i]
theorem tsTo_g (s : ByteArray) : ∀ i, tsTo s i = gTo (List.replicate 8 0) s i
  | 0 => rfl
  | i + 1 => by show tsStep s (tsTo s i) i = tsStep s (gTo _ s i) i; rw [tsTo_g s i]
theorem gTo_4 (z : List Int) (s : ByteArray) (i : Nat) (l : List Int) (r : List Int) (hl : l.length = i) (h : gTo z s (4 * i) = l ++ 0 :: r) : gTo z s (4 * (i + 1)) = l ++ wd s i :: r := by
  have st : ∀ (x : Int) (j : Nat), j < 4 → w32 x → gTo z s (4 * i + j) = l ++ x :: r → gTo z s (4 * i + j + 1) = l ++ (x * 256 % 4294967296 + bt s ((4 * i + j : Nat) : Int)) :: r := by
    intro x j hj hx hg
    show tsStep s (gTo z s (4 * i + j)) (4 * i + j) = _
    rw [hg]
    unfold tsStep
    rw [show (4 * i + j) / 4 = i by omega, ← hl]
    have e : (l ++ x :: r).getD l.length 0 = x := by simp
    rw [e, or_byte x _ hx (bt_range s _), List.set_append_right _ _ (Nat.le_refl _), Nat.sub_self]
    rfl
  have h0 := bt_range s ((4 * i : Nat) : Int)
  have h1 := bt_range s ((4 * i + 1 : Nat) : Int)
  have h2 := bt_range s ((4 * i + 2 : Nat) : Int)
  have h3 := bt_range s ((4 * i + 3 : Nat) : Int)
  have s1 := st 0 0 (by decide) (by unfold w32; omega) h
  have s2 := st _ 1 (by decide) (by unfold w32; simp only [Nat.add_zero]; omega) s1
  have s3 := st _ 2 (by decide) (by unfold w32; simp only [Nat.add_zero]; omega) s2
  have s4 := st _ 3 (by decide) (by unfold w32; simp only [Nat.add_zero]; omega) s3
  rw [show 4 * (i + 1) = 4 * i + 3 + 1 by omega, s4]
  congr 2
  unfold wd
  simp only [Nat.add_zero]
  omega
theorem gTo_words (s : ByteArray) (m : Nat) : ∀ i, i ≤ m → gTo (List.replicate m 0) s (4 * i) = (List.range i).map (wd s) ++ List.replicate (m - i) 0
  | 0, _ => by simp [gTo]
  | i + 1, h => by
    have e : List.replicate (m - i) (0 : Int) = 0 :: List.replicate (m - (i + 1)) 0 := by rw [show m - i = (m - (i + 1)) + 1 by omega, List.replicate_succ]
    rw [gTo_4 _ s i ((List.range i).map (wd s)) (List.replicate (m - (i + 1)) 0) (by simp) (by rw [gTo_words s m i (by omega), e]), List.range_succ, List.map_append, List.append_assoc]
    rfl
theorem txState_eq (s : ByteArray) : txState s = (List.range 8).map (wd s) := by
  unfold txState
  rw [tsTo_g, show (32 : Nat) = 4 * 8 from rfl, gTo_words s 8 8 (by decide)]
  simp
theorem wTo_eq (s : ByteArray) : wTo s 64 = (List.range 16).map (wd s) ++ List.replicate 48 0 := by
  rw [wTo_g, show (64 : Nat) = 4 * 16 from rfl]
  exact gTo_words s 64 16 (by decide)
end Go.Proofs.YtlddohppkcndjaaDoor.Sha
