/- The document's Permute is the program's. No condition. -/
import Derived.Test.YtmocccmffmacdaaKecP
import Derived.Test.YtmocccmffmacdaaPPermutex1
import Derived.Test.YtmocccmffmacdaaPl07Roundx2
import Derived.Test.YtmocccmffmacdaaPl07Turnsx1
import Derived.Test.YtmocccmffmacdaaPl07Roundsx1
namespace Go.Proofs.Ytmocccmffmacdaa.Kec
open Go.RowKit Go.Proofs.YtmocccmffmacdaaW.PrintWords Go.Proofs.YtmocccmffmacdaaW.PrintLast Go.Proofs.YtmocccmffmacdaaW.PrintMore Go.Proofs.Ytmocccmffmacdaa.PPermute Go.Proofs.Ytmocccmffmacdaa.Pl07Round Go.Proofs.Ytmocccmffmacdaa.Pl07Turns Go.Proofs.Ytmocccmffmacdaa.Pl07Rounds
set_option linter.unusedVariables false
set_option linter.unusedSimpArgs false

theorem le_mono {α : Type} {f : Nat → Option α} (h : ∀ k, LeO (f k) (f (k + 1))) {k K : Nat} (hk : k ≤ K) {r : α} (e : f k = some r) : f K = some r := by
  induction hk with
  | refl => exact e
  | step _ ih => exact h _ _ ih
theorem emod64 {n : Nat} (h : n < 2 ^ 64) : (n : Int) % 18446744073709551616 = (n : Int) := by
  have h2 : n < 18446744073709551616 := h
  omega
theorem wn (n : Nat) (h : n ≤ 1000000000) : wrap64 (n : Int) = (n : Int) := by unfold wrap64; omega
theorem left_l0 (x n : Int) : ∀ (d i K : Nat), (i : Int) + d = n → n < 64 → d + 1 ≤ K → spec_l07Left.l0 K x n ((2 ^ i : Nat) : Int) (i : Int) = spec_l07Left.l0 (K - d) x n ((2 ^ (i + d) : Nat) : Int) ((i + d : Nat) : Int)
  | 0, i, K, _, _, _ => rfl
  | d + 1, i, K, h, hn, hK => by
    obtain ⟨K, rfl⟩ : ∃ m, K = m + 1 := ⟨K - 1, by omega⟩
    have hp : 2 ^ (i + 1) ≤ 2 ^ 63 := Nat.pow_le_pow_right (by decide) (by omega)
    have e1 : IntKind.u64.wrap (((2 ^ i : Nat) : Int) * 2) = ((2 ^ (i + 1) : Nat) : Int) := by
      rw [Go.IntKind.wrap_u64, Nat.pow_succ]
      rw [Nat.pow_succ] at hp
      omega
    have e2 : wrap64 ((i : Int) + 1) = ((i + 1 : Nat) : Int) := by unfold wrap64; omega
    rw [spec_l07Left.l0, if_pos (by omega), e1, e2, left_l0 x n d (i + 1) K (by omega) hn (by omega), show K + 1 - (d + 1) = K - d by omega, show i + 1 + d = i + (d + 1) by omega]
theorem rl_add {y n : Nat} (hy : y < 2 ^ 64) (h0 : 0 < n) (h1 : n < 64) : rl (y : Int) n = ((y * 2 ^ n % 2 ^ 64 + y / 2 ^ (64 - n) : Nat) : Int) := by
  unfold rl
  rw [Int.toNat_natCast]
  congr 1
  have e : (2 : Nat) ^ 64 = 2 ^ n * 2 ^ (64 - n) := by rw [← Nat.pow_add]; congr 1; omega
  have m : y * 2 ^ n % 2 ^ 64 = 2 ^ n * (y % 2 ^ (64 - n)) := by
    rw [e, Nat.mul_comm y, Nat.mul_mod_mul_left]
  have d : y / 2 ^ (64 - n) < 2 ^ n := by
    rw [Nat.div_lt_iff_lt_mul (Nat.two_pow_pos _), ← e]
    exact hy
  rw [m, Nat.two_pow_add_eq_or_of_lt d]
theorem left_f {x : Int} (hx : Rg x) (n : Nat) (hn : n < 64) (K : Nat) (hK : 70 ≤ K) : spec_l07Left.f K x (n : Int) = some (rl x n) := by
  have hl := rg_lt hx
  obtain ⟨y, rfl⟩ := Int.eq_ofNat_of_zero_le hx.1
  rw [Int.toNat_natCast] at hl
  unfold spec_l07Left.f
  rw [show (1 : Int) = ((2 ^ 0 : Nat) : Int) from rfl, show (0 : Int) = ((0 : Nat) : Int) from rfl, left_l0 (y : Int) (n : Int) n 0 K (by omega) (by omega) (by omega)]
  obtain ⟨M, hM⟩ : ∃ m, K - n = m + 1 := ⟨K - n - 1, by omega⟩
  rw [hM, Nat.zero_add, spec_l07Left.l0, if_neg (by omega)]
  by_cases h0 : n = 0
  · subst h0
    rw [if_pos (by rfl)]
    congr 1
    unfold rl
    rw [Int.toNat_natCast, Nat.pow_zero, Nat.mul_one, Nat.mod_eq_of_lt hl, Nat.sub_zero, Nat.div_eq_of_lt hl, Nat.or_zero]
  · have hp : 0 < 2 ^ n := Nat.two_pow_pos n
    have e : (2 : Nat) ^ 63 = 2 ^ n * 2 ^ (63 - n) := by rw [← Nat.pow_add]; congr 1; omega
    have d : (2 : Nat) ^ 63 / 2 ^ n = 2 ^ (63 - n) := by rw [e]; exact Nat.mul_div_cancel_left _ hp
    have hs : (2 : Nat) ^ (63 - n) ≤ 2 ^ 62 := Nat.pow_le_pow_right (by decide) (by omega)
    have e1 : IntKind.u64.wrap (Int.tdiv 9223372036854775808 ((2 ^ n : Nat) : Int)) = ((2 ^ (63 - n) : Nat) : Int) := by
      rw [show (9223372036854775808 : Int) = ((2 ^ 63 : Nat) : Int) from rfl, ← Int.ofNat_tdiv, d, Go.IntKind.wrap_u64]
      exact emod64 (Nat.lt_of_le_of_lt hs (by decide))
    have e2 : IntKind.u64.wrap (((2 ^ (63 - n) : Nat) : Int) * 2) = ((2 ^ (64 - n) : Nat) : Int) := by
      rw [Go.IntKind.wrap_u64, show 64 - n = (63 - n) + 1 by omega, Nat.pow_succ]
      omega
    have hq : 0 < 2 ^ (64 - n) := Nat.two_pow_pos _
    rw [if_neg (by omega), if_neg (by omega), e1, e2, if_neg (by omega)]
    congr 1
    rw [rl_add hl (by omega) hn, ← Int.ofNat_tdiv]
    have dl : y / 2 ^ (64 - n) < 2 ^ n := by
      rw [Nat.div_lt_iff_lt_mul hq, ← Nat.pow_add, show n + (64 - n) = 64 by omega]
      exact hl
    have hn63 : 2 ^ n ≤ 2 ^ 63 := Nat.pow_le_pow_right (by decide) (by omega)
    have m : y * 2 ^ n % 2 ^ 64 = 2 ^ n * (y % 2 ^ (64 - n)) := by
      rw [show (2 : Nat) ^ 64 = 2 ^ n * 2 ^ (64 - n) by rw [← Nat.pow_add]; congr 1; omega, Nat.mul_comm y, Nat.mul_mod_mul_left]
    have lt : y * 2 ^ n % 2 ^ 64 + y / 2 ^ (64 - n) < 2 ^ 64 := by
      have hr : y % 2 ^ (64 - n) < 2 ^ (64 - n) := Nat.mod_lt _ hq
      have : 2 ^ n * (y % 2 ^ (64 - n)) + 2 ^ n ≤ 2 ^ n * 2 ^ (64 - n) := by rw [← Nat.mul_succ]; exact Nat.mul_le_mul_left _ hr
      rw [← Nat.pow_add, show n + (64 - n) = 64 by omega] at this
      omega
    have w1 : IntKind.u64.wrap (((y / 2 ^ (64 - n) : Nat)) : Int) = ((y / 2 ^ (64 - n) : Nat) : Int) := by rw [Go.IntKind.wrap_u64]; exact emod64 (Nat.lt_of_le_of_lt (Nat.div_le_self _ _) hl)
    have w2 : IntKind.u64.wrap ((y : Int) * ((2 ^ n : Nat) : Int)) = ((y * 2 ^ n % 2 ^ 64 : Nat) : Int) := by
      rw [Go.IntKind.wrap_u64, ← Int.natCast_mul, show ((2 : Nat) ^ 64) = 18446744073709551616 from rfl, Int.natCast_emod]
      rfl
    rw [w1, w2, Go.IntKind.wrap_u64, ← Int.natCast_add]
    exact emod64 lt
def trT : List Int := [0, 1, 62, 28, 27, 36, 44, 6, 55, 20, 3, 10, 43, 25, 39, 41, 45, 15, 21, 8, 18, 2, 61, 56, 14]
theorem turns_f (K : Nat) (hK : 30 ≤ K) : spec_l07Turns.f K = some trT := by
  have : spec_l07Turns.f 30 = some trT := by
    have h : (spec_l07Turns.f 30 == some trT) = true := by decide +kernel
    exact eq_of_beq h
  exact le_mono spec_l07Turns.mono hK this
theorem rounds_f (K : Nat) (hK : 300 ≤ K) : spec_l07Rounds.f K = some rcs := by
  have : spec_l07Rounds.f 300 = some rcs := by
    have h : (spec_l07Rounds.f 300 == some rcs) = true := by decide +kernel
    exact eq_of_beq h
  exact le_mono spec_l07Rounds.mono hK this
theorem rdn (l : List Int) (i : Nat) : rd l (i : Int) = g l i := by unfold rd g; rw [Int.toNat_natCast]
/-- the columns' sums, the first n of them -/
def clTo (l : List Int) : Nat → List Int
  | 0 => List.replicate 5 0
  | n + 1 => (clTo l n).set n (col l n)
theorem clTo_len (l : List Int) : ∀ n, (clTo l n).length = 5
  | 0 => rfl
  | n + 1 => by simp [clTo, clTo_len l n]
theorem rd_l0 (l T : List Int) (k : Int) (hl : l.length = 25) : ∀ (d n K : Nat), n + d = 5 → d + 1 ≤ K → spec_l07Round.l0 K l T k (clTo l n) (n : Int) = spec_l07Round.l1 (K - (d + 1)) l T k (clTo l 5) (List.replicate 25 0) 0
  | 0, n, K, h, hK => by
    obtain ⟨K, rfl⟩ : ∃ m, K = m + 1 := ⟨K - 1, by omega⟩
    obtain rfl : n = 5 := by omega
    rw [spec_l07Round.l0, if_neg (by decide), if_pos (by decide)]
    rfl
  | d + 1, n, K, h, hK => by
    obtain ⟨K, rfl⟩ : ∃ m, K = m + 1 := ⟨K - 1, by omega⟩
    have hc := clTo_len l n
    have e5 : wrap64 ((n : Int) + 5) = ((n + 5 : Nat) : Int) := by unfold wrap64; omega
    have e10 : wrap64 ((n : Int) + 10) = ((n + 10 : Nat) : Int) := by unfold wrap64; omega
    have e15 : wrap64 ((n : Int) + 15) = ((n + 15 : Nat) : Int) := by unfold wrap64; omega
    have e20 : wrap64 ((n : Int) + 20) = ((n + 20 : Nat) : Int) := by unfold wrap64; omega
    have e1 : wrap64 ((n : Int) + 1) = ((n + 1 : Nat) : Int) := by unfold wrap64; omega
    rw [spec_l07Round.l0, e1, e5, e10, e15, e20, if_pos (by omega), if_pos (by omega), if_pos (by omega), if_pos (by omega), if_pos (by omega), if_pos (by omega), if_pos (by omega), if_pos (by omega), if_pos (by omega), if_pos (by omega), if_pos (by omega), if_pos (by omega), rdn, rdn, rdn, rdn, rdn, Int.toNat_natCast]
    rw [show K + 1 - (d + 1 + 1) = K - (d + 1) by omega]
    exact rd_l0 l T k hl d (n + 1) K (by omega) (by omega)
theorem cl5 (l : List Int) : clTo l 5 = [col l 0, col l 1, col l 2, col l 3, col l 4] := rfl
/-- what lies at a place: the lane of number s, mixed with its columns and turned -/
def mv (l : List Int) (s : Nat) : Int := rl (g (thetaL l) s) (trT.getD s 0).toNat
def bTo (F : Nat → Int) : Nat → List Int
  | 0 => List.replicate 25 0
  | n + 1 => (bTo F n).set (n % 5 + 5 * ((2 * (n / 5) + 3 * (n % 5)) % 5)) (F (n / 5 + 5 * (n % 5)))
theorem bTo_len (F : Nat → Int) : ∀ n, (bTo F n).length = 25
  | 0 => rfl
  | n + 1 => by simp [bTo, bTo_len F n]
theorem trT_lt : ∀ s, s < 25 → 0 ≤ trT.getD s 0 ∧ (trT.getD s 0).toNat < 64 := by decide
theorem trT_len : trT.length = 25 := rfl
theorem rd_l2 (l : List Int) (k : Int) (hL : Lanes l) (x : Nat) (hx : x < 5) : ∀ (d y K : Nat), y + d = 5 → d + 71 ≤ K → spec_l07Round.l2 K l trT k (clTo l 5) (bTo (mv l) (5 * x + y)) (x : Int) (xr (col l ((x + 4) % 5)) (rl (col l ((x + 1) % 5)) 1)) (y : Int) = spec_l07Round.l1 (K - (d + 1)) l trT k (clTo l 5) (bTo (mv l) (5 * (x + 1))) ((x + 1 : Nat) : Int)
  | 0, y, K, h, hK => by
    obtain ⟨K, rfl⟩ : ∃ m, K = m + 1 := ⟨K - 1, by omega⟩
    obtain rfl : y = 5 := by omega
    have e1 : wrap64 ((x : Int) + 1) = ((x + 1 : Nat) : Int) := by unfold wrap64; omega
    rw [spec_l07Round.l2, if_neg (by decide), e1]
    rfl
  | d + 1, y, K, h, hK => by
    obtain ⟨K, rfl⟩ : ∃ m, K = m + 1 := ⟨K - 1, by omega⟩
    have hl := hL.1
    have hb := bTo_len (mv l) (5 * x + y)
    have e1 : wrap64 ((y : Int) + 1) = ((y + 1 : Nat) : Int) := by unfold wrap64; omega
    have e5 : wrap64 (5 * (y : Int)) = ((5 * y : Nat) : Int) := by unfold wrap64; omega
    have ei : wrap64 ((x : Int) + ((5 * y : Nat) : Int)) = ((x + 5 * y : Nat) : Int) := by unfold wrap64; omega
    have e2 : wrap64 (2 * (x : Int)) = ((2 * x : Nat) : Int) := by unfold wrap64; omega
    have e3 : wrap64 (3 * (y : Int)) = ((3 * y : Nat) : Int) := by unfold wrap64; omega
    have e23 : wrap64 (((2 * x : Nat) : Int) + ((3 * y : Nat) : Int)) = ((2 * x + 3 * y : Nat) : Int) := by unfold wrap64; omega
    have em : Int.tmod ((2 * x + 3 * y : Nat) : Int) 5 = (((2 * x + 3 * y) % 5 : Nat) : Int) := by rw [Int.tmod_eq_emod_of_nonneg (by omega)]; omega
    have e55 : wrap64 (5 * (((2 * x + 3 * y) % 5 : Nat) : Int)) = ((5 * ((2 * x + 3 * y) % 5) : Nat) : Int) := by unfold wrap64; omega
    have ej : wrap64 ((y : Int) + ((5 * ((2 * x + 3 * y) % 5) : Nat) : Int)) = ((y + 5 * ((2 * x + 3 * y) % 5) : Nat) : Int) := by unfold wrap64; omega
    have ht := trT_lt (x + 5 * y) (by omega)
    have htl := trT_len
    have hrot : rd trT ((x + 5 * y : Nat) : Int) = (((trT.getD (x + 5 * y) 0).toNat : Nat) : Int) := by rw [rdn]; unfold g; omega
    have hlane : Go.bits .xor .u64 (g l (x + 5 * y)) (xr (col l ((x + 4) % 5)) (rl (col l ((x + 1) % 5)) 1)) = g (thetaL l) (x + 5 * y) := by
      have := row25_get (fun i => xr (g l i) (xr (col l ((i % 5 + 4) % 5)) (rl (col l ((i % 5 + 1) % 5)) 1))) (x + 5 * y) (by omega)
      rw [show (x + 5 * y) % 5 = x by omega] at this
      exact this.symm
    rw [spec_l07Round.l2, e1, e5, ei, e2, e3, e23, em, e55, ej, if_pos (by omega), if_pos (by omega), if_pos (by omega), if_pos (by omega), rdn, hlane, hrot, left_f (g_rg (theta_lanes hL) _) _ ht.2 K (by omega), Option.bind_some, if_pos (by omega), if_pos (by omega), Int.toNat_natCast]
    have := rd_l2 l k hL x hx d (y + 1) K (by omega) (by omega)
    rw [show K + 1 - (d + 1 + 1) = K - (d + 1) by omega, ← this]
    congr 1
    show _ = (bTo (mv l) (5 * x + y)).set ((5 * x + y) % 5 + 5 * ((2 * ((5 * x + y) / 5) + 3 * ((5 * x + y) % 5)) % 5)) (mv l ((5 * x + y) / 5 + 5 * ((5 * x + y) % 5)))
    rw [show (5 * x + y) % 5 = y by omega, show (5 * x + y) / 5 = x by omega]
    rfl
theorem rd_l1 (l : List Int) (k : Int) (hL : Lanes l) : ∀ (d x K : Nat), x + d = 5 → 7 * d + 80 ≤ K → spec_l07Round.l1 K l trT k (clTo l 5) (bTo (mv l) (5 * x)) (x : Int) = spec_l07Round.l3 (K - (7 * d + 1)) k (bTo (mv l) 25) (List.replicate 25 0) 0
  | 0, x, K, h, hK => by
    obtain ⟨K, rfl⟩ : ∃ m, K = m + 1 := ⟨K - 1, by omega⟩
    obtain rfl : x = 5 := by omega
    rw [spec_l07Round.l1, if_neg (by decide), if_pos (by decide)]
    rfl
  | d + 1, x, K, h, hK => by
    obtain ⟨K, rfl⟩ : ∃ m, K = m + 1 := ⟨K - 1, by omega⟩
    have e4 : wrap64 ((x : Int) + 4) = ((x + 4 : Nat) : Int) := by unfold wrap64; omega
    have e1 : wrap64 ((x : Int) + 1) = ((x + 1 : Nat) : Int) := by unfold wrap64; omega
    have m4 : Int.tmod ((x + 4 : Nat) : Int) 5 = (((x + 4) % 5 : Nat) : Int) := by rw [Int.tmod_eq_emod_of_nonneg (by omega)]; omega
    have m1 : Int.tmod ((x + 1 : Nat) : Int) 5 = (((x + 1) % 5 : Nat) : Int) := by rw [Int.tmod_eq_emod_of_nonneg (by omega)]; omega
    have hc := clTo_len l 5
    have g4 : g (clTo l 5) ((x + 4) % 5) = col l ((x + 4) % 5) := by rw [cl5]; exact col_get l _ (Nat.mod_lt _ (by decide))
    have g1 : g (clTo l 5) ((x + 1) % 5) = col l ((x + 1) % 5) := by rw [cl5]; exact col_get l _ (Nat.mod_lt _ (by decide))
    rw [spec_l07Round.l1, e4, e1, m4, m1, if_pos (by omega), if_pos (by omega), if_pos (by omega), if_pos (by omega), if_pos (by omega), rdn, rdn, g4, g1, show (1 : Int) = ((1 : Nat) : Int) from rfl, left_f (col_rg hL _) 1 (by decide) K (by omega), Option.bind_some]
    have h2 := rd_l2 l k hL x (by omega) 5 0 K (by omega) (by omega)
    rw [Nat.add_zero] at h2
    refine Eq.trans h2 ?_
    rw [show K + 1 - (7 * (d + 1) + 1) = (K - (5 + 1)) - (7 * d + 1) by omega]
    exact rd_l1 l k hL d (x + 1) (K - (5 + 1)) (by omega) (by omega)
set_option maxHeartbeats 4000000 in
theorem b25 (l : List Int) : bTo (mv l) 25 = rhoL (thetaL l) := by
  have e : bTo (mv l) 25 = row25 fun j => mv l (srcT.getD j 0) := by
    unfold row25 srcT
    simp [bTo, List.range, List.range.loop]
  rw [e]
  unfold rhoL
  have hm : ∀ j, j < 25 → (trT.getD (srcT.getD j 0) 0).toNat = amtT.getD j 0 := by decide
  refine list_ext25 (row25_len _) (row25_len _) fun i hi => ?_
  unfold g
  rw [row25_get _ i hi, row25_get _ i hi]
  unfold mv
  rw [hm i hi]
  rfl
end Go.Proofs.Ytmocccmffmacdaa.Kec
namespace Go.Proofs.Ytmocccmffmacdaa.Kec
open Go.RowKit Go.Proofs.YtmocccmffmacdaaW.PrintWords Go.Proofs.YtmocccmffmacdaaW.PrintLast Go.Proofs.YtmocccmffmacdaaW.PrintMore Go.Proofs.Ytmocccmffmacdaa.PPermute Go.Proofs.Ytmocccmffmacdaa.Pl07Round Go.Proofs.Ytmocccmffmacdaa.Pl07Turns Go.Proofs.Ytmocccmffmacdaa.Pl07Rounds
set_option linter.unusedVariables false
set_option linter.unusedSimpArgs false

/-- rows mixed, place by place, in the document's order -/
def dTo (H : Nat → Int) : Nat → List Int
  | 0 => List.replicate 25 0
  | n + 1 => (dTo H n).set (n / 5 + 5 * (n % 5)) (H (n / 5 + 5 * (n % 5)))
theorem dTo_len (H : Nat → Int) : ∀ n, (dTo H n).length = 25
  | 0 => rfl
  | n + 1 => by simp [dTo, dTo_len H n]
def chH (b : List Int) (i : Nat) : Int := xr (g b i) (an (nt (g b ((i % 5 + 1) % 5 + 5 * (i / 5)))) (g b ((i % 5 + 2) % 5 + 5 * (i / 5))))
theorem wadd (a b : Nat) (h : a + b ≤ 1000000000) : wrap64 ((a : Int) + (b : Int)) = ((a + b : Nat) : Int) := by rw [← Int.natCast_add]; exact wn _ h
theorem wmul5 (y : Nat) (h : y < 5) : wrap64 (5 * (y : Int)) = ((5 * y : Nat) : Int) := by unfold wrap64; omega
theorem wone (x : Nat) (h : x < 1000) : wrap64 ((x : Int) + 1) = ((x + 1 : Nat) : Int) := wadd x 1 (by omega)
theorem wtwo (x : Nat) (h : x < 1000) : wrap64 ((x : Int) + 2) = ((x + 2 : Nat) : Int) := wadd x 2 (by omega)
theorem tm5 (a : Nat) : Int.tmod (a : Int) 5 = ((a % 5 : Nat) : Int) := by rw [Int.tmod_eq_emod_of_nonneg (by omega)]; omega
theorem idx5 (x y : Nat) (hx : x < 5) (hy : y < 5) : x + 5 * y < 25 ∧ (x + 1) % 5 + 5 * y < 25 ∧ (x + 2) % 5 + 5 * y < 25 ∧ (5 * x + y) % 5 = y ∧ (5 * x + y) / 5 = x ∧ (x + 5 * y) % 5 = x ∧ (x + 5 * y) / 5 = y := by omega
theorem rd_l4 (b : List Int) (k : Int) (hB : Lanes b) (x : Nat) (hx : x < 5) : ∀ (d y K : Nat), y + d = 5 → d + 1 ≤ K → spec_l07Round.l4 K k b (dTo (chH b) (5 * x + y)) (x : Int) (y : Int) = spec_l07Round.l3 (K - (d + 1)) k b (dTo (chH b) (5 * (x + 1))) ((x + 1 : Nat) : Int)
  | 0, y, K, h, hK => by
    obtain ⟨K, rfl⟩ : ∃ m, K = m + 1 := ⟨K - 1, by omega⟩
    obtain rfl : y = 5 := by omega
    have e1 : wrap64 ((x : Int) + 1) = ((x + 1 : Nat) : Int) := by unfold wrap64; omega
    rw [spec_l07Round.l4, if_neg (by decide), e1]
    rfl
  | d + 1, y, K, h, hK => by
    obtain ⟨K, rfl⟩ : ∃ m, K = m + 1 := ⟨K - 1, by omega⟩
    have hl := hB.1
    have hb := dTo_len (chH b) (5 * x + y)
    have yn : y < 5 := by omega
    have y5 : (y : Int) < 5 := by omega
    have hdK : d + 1 ≤ K := by omega
    have hyd : y + 1 + d = 5 := by omega
    have hKd : K + 1 - (d + 1 + 1) = K - (d + 1) := by omega
    obtain ⟨i0, i1, i2, hm5, hd5, hxm, hxd⟩ := idx5 x y hx yn
    have c0 : ((x + 5 * y : Nat) : Int) < (b.length : Int) := by rw [hl]; exact Int.ofNat_lt.2 i0
    have c1 : (((x + 1) % 5 + 5 * y : Nat) : Int) < (b.length : Int) := by rw [hl]; exact Int.ofNat_lt.2 i1
    have c2 : (((x + 2) % 5 + 5 * y : Nat) : Int) < (b.length : Int) := by rw [hl]; exact Int.ofNat_lt.2 i2
    have c3 : ((x + 5 * y : Nat) : Int) < ((dTo (chH b) (5 * x + y)).length : Int) := by rw [hb]; exact Int.ofNat_lt.2 i0
    have e1 := wone y (Nat.lt_trans yn (by decide))
    have e5 := wmul5 y yn
    have ei := wadd x (5 * y) (Nat.le_trans (Nat.le_of_lt i0) (by decide))
    have f1 := wone x (Nat.lt_trans hx (by decide))
    have f2 := wtwo x (Nat.lt_trans hx (by decide))
    have m1 := tm5 (x + 1)
    have m2 := tm5 (x + 2)
    have e1' := wadd ((x + 1) % 5) (5 * y) (Nat.le_trans (Nat.le_of_lt i1) (by decide))
    have e2' := wadd ((x + 2) % 5) (5 * y) (Nat.le_trans (Nat.le_of_lt i2) (by decide))
    have hn := nt_rg (g_rg hB ((x + 1) % 5 + 5 * y))
    have hw : IntKind.u64.wrap (18446744073709551615 - g b ((x + 1) % 5 + 5 * y)) = nt (g b ((x + 1) % 5 + 5 * y)) := by rw [Go.IntKind.wrap_u64]; exact Int.emod_eq_of_lt hn.1 hn.2
    rw [spec_l07Round.l4, e1, e5, ei, f1, f2, m1, m2, e1', e2', if_pos y5, if_pos (Int.natCast_nonneg _), if_pos c0, if_pos (Int.natCast_nonneg _), if_pos c1, if_pos (Int.natCast_nonneg _), if_pos c2, if_pos c3, rdn, rdn, rdn, hw, Int.toNat_natCast]
    have := rd_l4 b k hB x hx d (y + 1) K hyd hdK
    rw [hKd, ← this]
    congr 1
    show _ = (dTo (chH b) (5 * x + y)).set ((5 * x + y) / 5 + 5 * ((5 * x + y) % 5)) (chH b ((5 * x + y) / 5 + 5 * ((5 * x + y) % 5)))
    rw [hm5, hd5]
    unfold chH
    rw [hxm, hxd]
    rfl
set_option maxHeartbeats 4000000 in
theorem d25 (b : List Int) : dTo (chH b) 25 = chiL b := by
  have e : ∀ H : Nat → Int, dTo H 25 = row25 H := by
    intro H
    unfold row25
    simp [dTo, List.range, List.range.loop]
  rw [e]
  rfl
theorem rd_l3 (b : List Int) (k : Int) (hB : Lanes b) : ∀ (d x K : Nat), x + d = 5 → 7 * d + 1 ≤ K → spec_l07Round.l3 K k b (dTo (chH b) (5 * x)) (x : Int) = some ((chiL b).set 0 (xr (g (chiL b) 0) k))
  | 0, x, K, h, hK => by
    obtain ⟨K, rfl⟩ : ∃ m, K = m + 1 := ⟨K - 1, by omega⟩
    obtain rfl : x = 5 := by omega
    have hl := (chi_lanes hB).1
    rw [spec_l07Round.l3, if_neg (by decide), d25, if_pos (by omega)]
    rfl
  | d + 1, x, K, h, hK => by
    obtain ⟨K, rfl⟩ : ∃ m, K = m + 1 := ⟨K - 1, by omega⟩
    rw [spec_l07Round.l3, if_pos (by omega)]
    have h4 := rd_l4 b k hB x (by omega) 5 0 K (by omega) (by omega)
    rw [Nat.add_zero] at h4
    refine Eq.trans h4 ?_
    exact rd_l3 b k hB d (x + 1) (K - (5 + 1)) (by omega) (by omega)
theorem round_f (l : List Int) (k : Int) (hL : Lanes l) (K : Nat) (hK : 200 ≤ K) : spec_l07Round.f K l trT k = some (rdL k l) := by
  unfold spec_l07Round.f
  rw [if_pos (by decide)]
  refine Eq.trans (rd_l0 l trT k hL.1 5 0 K (by omega) (by omega)) ?_
  refine Eq.trans (rd_l1 l k hL 5 0 (K - (5 + 1)) (by omega) (by omega)) ?_
  rw [b25]
  exact rd_l3 (rhoL (thetaL l)) k (rho_lanes (theta_lanes hL)) 5 0 _ (by omega) (by omega)
end Go.Proofs.Ytmocccmffmacdaa.Kec
namespace Go.Proofs.Ytmocccmffmacdaa.Kec
open Go.RowKit Go.Proofs.YtmocccmffmacdaaW.PrintWords Go.Proofs.YtmocccmffmacdaaW.PrintLast Go.Proofs.YtmocccmffmacdaaW.PrintMore Go.Proofs.Ytmocccmffmacdaa.PPermute Go.Proofs.Ytmocccmffmacdaa.Pl07Round Go.Proofs.Ytmocccmffmacdaa.Pl07Turns Go.Proofs.Ytmocccmffmacdaa.Pl07Rounds
set_option linter.unusedVariables false
set_option linter.unusedSimpArgs false

theorem lanes_l1 (s : ByteArray) (out : List Int) (i : Nat) (hs : s.size ≤ 1000000000) (hi : 8 * i + 8 ≤ s.size) (ho : out.length ≤ 1000000000) : ∀ (d K : Nat) (x : Nat), d ≤ 8 → d + 1 ≤ K → x < 256 ^ (8 - d) → ∃ y : Nat, y = x * 256 ^ d + pl s i d ∧ spec_l07Lanes.l1 K s out ((8 * i : Nat) : Int) (x : Int) ((d : Int) - 1) = spec_l07Lanes.l0 (K - (d + 1)) s (out ++ [(y : Int)]) ((8 * (i + 1) : Nat) : Int)
  | 0, K, x, _, hK, _ => by
    obtain ⟨K, rfl⟩ : ∃ m, K = m + 1 := ⟨K - 1, by omega⟩
    have e1 : wrap64 (((8 * i : Nat) : Int) + 8) = ((8 * (i + 1) : Nat) : Int) := by unfold wrap64; omega
    refine ⟨x, by simp [pl], ?_⟩
    rw [spec_l07Lanes.l1, if_neg (by decide), if_pos (by omega), e1]
    rfl
  | d + 1, K, x, hd, hK, hx => by
    obtain ⟨K, rfl⟩ : ∃ m, K = m + 1 := ⟨K - 1, by omega⟩
    have hb := bn_lt s (8 * i + d)
    have hp : 256 ^ (8 - (d + 1)) * 256 = 256 ^ (8 - d) := by rw [← Nat.pow_succ]; congr 1; omega
    have hp8 : 256 ^ (8 - d) ≤ 256 ^ 8 := Nat.pow_le_pow_right (by decide) (by omega)
    have hx2 : x * 256 + bn s (8 * i + d) < 256 ^ (8 - d) := by
      have : x * 256 + 256 ≤ 256 ^ (8 - (d + 1)) * 256 := by rw [← Nat.succ_mul]; exact Nat.mul_le_mul_right _ hx
      omega
    have ed : ((d + 1 : Nat) : Int) - 1 = (d : Int) := by omega
    have ei : wrap64 (((8 * i : Nat) : Int) + (d : Int)) = ((8 * i + d : Nat) : Int) := by unfold wrap64; omega
    have e1 : wrap64 ((d : Int) - 1) = (d : Int) - 1 := by unfold wrap64; omega
    have hx3 : x * 256 + bn s (8 * i + d) < 2 ^ 64 := Nat.lt_of_lt_of_le hx2 hp8
    have w1 : IntKind.u64.wrap ((x : Int) * 256) = ((x * 256 : Nat) : Int) := by rw [Go.IntKind.wrap_u64]; have := hx3; omega
    have w2 : IntKind.u64.wrap ((bn s (8 * i + d) : Nat) : Int) = ((bn s (8 * i + d) : Nat) : Int) := by rw [Go.IntKind.wrap_u64]; omega
    have w3 : IntKind.u64.wrap (((x * 256 : Nat) : Int) + ((bn s (8 * i + d) : Nat) : Int)) = ((x * 256 + bn s (8 * i + d) : Nat) : Int) := by rw [Go.IntKind.wrap_u64, ← Int.natCast_add]; exact emod64 hx3
    obtain ⟨y, hy, e⟩ := lanes_l1 s out i hs hi ho d K (x * 256 + bn s (8 * i + d)) (by omega) (by omega) hx2
    refine ⟨y, ?_, ?_⟩
    · rw [hy]
      show _ = x * 256 ^ (d + 1) + (pl s i d + bn s (8 * i + d) * 2 ^ (8 * d))
      rw [show (2 : Nat) ^ (8 * d) = 256 ^ d by rw [Nat.pow_mul], Nat.pow_succ, Nat.add_mul, Nat.mul_assoc, Nat.mul_comm 256]
      omega
    · rw [ed, spec_l07Lanes.l1, ei, e1, if_pos (by omega), if_pos (by omega), if_pos (by omega), bn_eq, w1, w2, w3, e, show K + 1 - (d + 1 + 1) = K - (d + 1) by omega]
theorem lns_snoc (s : ByteArray) (m : Nat) : lns s m ++ [ln s m] = lns s (m + 1) := by
  unfold lns
  rw [List.range_succ, List.map_append]
  rfl
theorem lanes_l0 (s : ByteArray) (m : Nat) (hm : s.size / 8 = m) (hs : s.size ≤ 1000000000) : ∀ (d i K : Nat), i + d = m → 10 * d + 1 ≤ K → spec_l07Lanes.l0 K s (lns s i) ((8 * i : Nat) : Int) = some (lns s m)
  | 0, i, K, h, hK => by
    obtain ⟨K, rfl⟩ : ∃ m, K = m + 1 := ⟨K - 1, by omega⟩
    obtain rfl : i = m := by omega
    have e1 : wrap64 (((8 * i : Nat) : Int) + 8) = ((8 * i + 8 : Nat) : Int) := by unfold wrap64; omega
    rw [spec_l07Lanes.l0, e1, if_neg (by omega)]
  | d + 1, i, K, h, hK => by
    obtain ⟨K, rfl⟩ : ∃ m, K = m + 1 := ⟨K - 1, by omega⟩
    have e1 : wrap64 (((8 * i : Nat) : Int) + 8) = ((8 * i + 8 : Nat) : Int) := by unfold wrap64; omega
    obtain ⟨y, hy, e⟩ := lanes_l1 s (lns s i) i hs (by omega) (by rw [lns_len]; omega) 8 K 0 (by decide) (by omega) (by decide)
    rw [Nat.zero_mul, Nat.zero_add] at hy
    rw [hy, ← ln_pl, lns_snoc] at e
    rw [spec_l07Lanes.l0, e1, if_pos (by omega)]
    refine Eq.trans e ?_
    exact lanes_l0 s m hm hs d (i + 1) _ (by omega) (by omega)
theorem lanes_f (s : ByteArray) (m K : Nat) (hm : s.size / 8 = m) (hs : s.size ≤ 1000000000) (hK : 10 * m + 1 ≤ K) : spec_l07Lanes.f K s = some (lns s m) :=
  lanes_l0 s m hm hs m 0 K (by omega) hK
theorem bytes_l1 (l : List Int) (hl : l.length = 25) (hL : Lanes l) (i : Nat) (hi : i < 25) : ∀ (d j K : Nat), j + d = 8 → d + 1 ≤ K → spec_l07Bytes.l1 K l (lbytes l (8 * i + j)) (i : Int) (g l i / 2 ^ (8 * j)) (j : Int) = spec_l07Bytes.l0 (K - (d + 1)) l (lbytes l (8 * (i + 1))) ((i + 1 : Nat) : Int)
  | 0, j, K, h, hK => by
    obtain ⟨K, rfl⟩ : ∃ m, K = m + 1 := ⟨K - 1, by omega⟩
    obtain rfl : j = 8 := by omega
    have e1 : wrap64 ((i : Int) + 1) = ((i + 1 : Nat) : Int) := by unfold wrap64; omega
    rw [spec_l07Bytes.l1, if_neg (by decide), e1]
    rfl
  | d + 1, j, K, h, hK => by
    obtain ⟨K, rfl⟩ : ∃ m, K = m + 1 := ⟨K - 1, by omega⟩
    have hr := g_rg hL i
    have e1 : wrap64 ((j : Int) + 1) = ((j + 1 : Nat) : Int) := by unfold wrap64; omega
    have hlen := lbytes_len l (8 * i + j)
    obtain ⟨x, hx⟩ : ∃ x, g l i / 2 ^ (8 * j) = x := ⟨_, rfl⟩
    have hx0 : 0 ≤ x ∧ x < 18446744073709551616 := by
      obtain ⟨y, hy⟩ := Int.eq_ofNat_of_zero_le hr.1
      have hr2 := hr.2
      rw [hy] at hx hr2
      have e : ((y : Int) / 2 ^ (8 * j)) = ((y / 2 ^ (8 * j) : Nat) : Int) := by push_cast; rfl
      rw [e] at hx
      have hy2 : y < 18446744073709551616 := by omega
      rw [← hx]
      exact ⟨Int.natCast_nonneg _, Int.ofNat_lt.2 (show _ < 18446744073709551616 from Nat.lt_of_le_of_lt (Nat.div_le_self _ _) hy2)⟩
    have hq : Int.tdiv x 256 = x / 256 := Int.tdiv_eq_ediv_of_nonneg hx0.1
    have hm : Int.tmod x 256 % 256 = x % 256 := by rw [Int.tmod_eq_emod_of_nonneg hx0.1]; omega
    have hw : IntKind.u64.wrap (x / 256) = x / 256 := by rw [Go.IntKind.wrap_u64]; omega
    have hn : x / 256 = g l i / 2 ^ (8 * (j + 1)) := by
      rw [← hx, show 8 * (j + 1) = 8 * j + 8 by omega, Int.pow_add, show (256 : Int) = 2 ^ 8 by decide, Int.ediv_ediv_of_nonneg (by exact Int.pow_nonneg (by decide))]
    have hby : lbytes l (8 * i + j) ++ [x % 256] = lbytes l (8 * i + (j + 1)) := by
      rw [← Nat.add_assoc, ← lbytes_snoc]
      unfold byteAt
      rw [show (8 * i + j) / 8 = i by omega, show (8 * i + j) % 8 = j by omega, hx]
    rw [hx, spec_l07Bytes.l1, e1, hq, hm, hw, hby, if_pos (by omega), if_pos (by omega), hn, show K + 1 - (d + 1 + 1) = K - (d + 1) by omega]
    exact bytes_l1 l hl hL i hi d (j + 1) K (by omega) (by omega)
theorem bytes_l0 (l : List Int) (hL : Lanes l) : ∀ (d i K : Nat), i + d = 25 → 10 * d + 1 ≤ K → spec_l07Bytes.l0 K l (lbytes l (8 * i)) (i : Int) = some (stx l)
  | 0, i, K, h, hK => by
    obtain ⟨K, rfl⟩ : ∃ m, K = m + 1 := ⟨K - 1, by omega⟩
    obtain rfl : i = 25 := by omega
    have hl := hL.1
    rw [spec_l07Bytes.l0, if_neg (by omega)]
    rfl
  | d + 1, i, K, h, hK => by
    obtain ⟨K, rfl⟩ : ∃ m, K = m + 1 := ⟨K - 1, by omega⟩
    have hl := hL.1
    rw [spec_l07Bytes.l0, if_pos (by omega), if_pos (by omega), rdn]
    have e := bytes_l1 l hl hL i (by omega) 8 0 K (by decide) (by omega)
    rw [Nat.mul_zero, Int.pow_zero, Int.ediv_one, Nat.add_zero] at e
    refine Eq.trans e ?_
    exact bytes_l0 l hL d (i + 1) _ (by omega) (by omega)
theorem bytes_f (l : List Int) (hL : Lanes l) (K : Nat) (hK : 251 ≤ K) : spec_l07Bytes.f K l = some (stx l) :=
  bytes_l0 l hL 25 0 K (by decide) hK
theorem round_calls (l : List Int) (hL : Lanes l) (k : Int) (A A1 : Option Addr) (c c1 : Nat) (w : World) (hr : Kd.C (Kd.int .u64) w A 25 l) (hc : 25 ≤ c) (hr1 : Kd.C (Kd.int .i64) w A1 trT.length trT) (hc1 : trT.length ≤ c1) : Calls Try.prog 50 #[.slice A 25 c, .slice A1 trT.length c1, .int .u64 k] w fun e w' => ∃ v : Value, e = .returned v ∧ Kd.R (Kd.int .u64) 47 w' w.heap.size (fun _ => True) v (rdL k l) ∧ Below w.heap.size w w' := by
  have h := spec_l07Round.calls 300 A c l A1 c1 trT k (rdL k l) w (by rw [hL.1]; exact hr) (by rw [hL.1]; exact hc) hr1 hc1 (round_f l k hL 300 (by decide))
  rw [hL.1] at h
  exact h
theorem kd_some {W : World} {A : Option Addr} {l : List Int} {c : Nat} {ok : Nat → Prop} {b : Nat} (h : Kd.R (Kd.int .u64) 47 W b ok (.slice A l.length c) l) : Kd.C (Kd.int .u64) W A l.length l ∧ l.length ≤ c := ⟨(Kd.R_reads' h).2.2, (Kd.R_reads' h).2.1⟩
set_option maxHeartbeats 4000000 in
set_option maxRecDepth 100000 in
theorem specPerm_calls (A : Option Addr) (c : Nat) (l : List Int) (hL : Lanes l) (w : World) (hr : Kd.C (Kd.int .u64) w A l.length l) (hc : l.length ≤ c) : Calls Try.prog 31 #[.slice A l.length c] w fun e_ w' => ∃ v : Value, e_ = .returned v ∧ Kd.R (Kd.int .u64) 47 w' w.heap.size (fun _ => True) v (kcTo l 24) ∧ Below w.heap.size w w' := by
  have HLa := Aside0.mk hL
  have HR0 := Aside0.mk hr
  have HC0 := Aside0.mk hc
  have HB := Aside0.mk (Below.refl w.heap.size w)
  have HT := Aside0.mk (turns_f 300 (by decide))
  have HN := Aside0.mk (rounds_f 300 (by decide))
  clear hL hr hc
  go_enter Try.func31, Try.ntmps31
  go_wp2_with (first
    | (go_at_call 48; refine (spec_l07Turns.calls 300 trT _ HT.out).mono ?_; rintro e_ w1 ⟨v1, rfl, ho1, hb1⟩; have H1 := Aside0.mk (Kd.R_lower ho1 (Nat.zero_le _)); have HB1 := Aside0.mk hb1; clear ho1 hb1)
    | (go_at_call 49; refine (spec_l07Rounds.calls 300 rcs _ HN.out).mono ?_; rintro e_ w2 ⟨v2, rfl, ho2, hb2⟩; have H2 := Aside0.mk (Kd.R_lower ho2 (Nat.zero_le _)); have H1_ := Aside0.mk (Kd.R_below H1.out hb2); clear H1; have H1 := H1_; clear H1_; have HB2 := Aside0.mk (HB1.out.trans (hb2.mono HB1.out.size)); clear HB1 ho2 hb2))
  obtain ⟨A1, c1, hv1⟩ := Kd.R_slice H1.out
  obtain ⟨A2, c2, hv2⟩ := Kd.R_slice H2.out
  subst hv1
  subst hv2
  go_loopg [0, 5] 24 (fun k s0 s5 wx => ∃ t : Nat, ∃ A' c', t + k = 24 ∧ s5 = .int .i64 t ∧ s0 = .slice A' 25 c' ∧ Aside0 (Below w.heap.size w wx ∧ Kd.C (Kd.int .u64) wx A' 25 (kcTo l t) ∧ 25 ≤ c' ∧ (0 < t → Kd.R (Kd.int .u64) 47 wx w.heap.size (fun _ => True) (.slice A' 25 c') (kcTo l t)) ∧ Kd.R (Kd.int .i64) 3 wx 0 (fun _ => True) (.slice A1 trT.length c1) trT ∧ Kd.R (Kd.int .u64) 47 wx 0 (fun _ => True) (.slice A2 rcs.length c2) rcs))
  case atStart => exact ⟨0, A, c, by omega, rfl, by rw [HLa.out.1], ⟨HB2.out, by have := Kd.C_below HR0.out HB2.out; rw [HLa.out.1] at this; exact this, by rw [← HLa.out.1]; exact HC0.out, fun h => absurd h (by decide), H1.out, H2.out⟩⟩
  case round =>
    obtain ⟨t, A', c', htk, rfl, rfl, HY⟩ := hrel
    clear H1 H2 HB2
    cases gk with
    | zero =>
      obtain rfl : t = 24 := by omega
      clear htk
      have hi : ¬ ((24 : Int) < 24) := by decide
      go_wp2
      go_ret
      exact ⟨_, rfl, HY.out.2.2.2.1 (by decide), HY.out.1⟩
    | succ kk =>
      have hi : (t : Int) < 24 := by omega
      have HK := Aside0.mk (kcTo_lanes HLa.out t)
      have HRf := Aside0.mk (round_f (kcTo l t) (rcs.getD t 0) HK.out 300 (by decide))
      have p0 : (0 : Int) ≤ (t : Int) := by omega
      have q0 : (t : Int) < (rcs.length : Int) := hi
      obtain ⟨ad, e, hx0⟩ := Kd.at_int (Kd.R_reads' HY.out.2.2.2.2.2).2.2 (t : Int) p0 q0
      cases e
      have hk := rdn rcs t
      have HI := Aside0.mk (And.intro htk hk)
      obtain ⟨rc, hrc⟩ : ∃ z, rd rcs (t : Int) = z := ⟨_, rfl⟩
      rw [hrc, Int.toNat_natCast] at hx0
      have HRC := Aside0.mk hrc
      have HK25 := Aside0.mk HK.out.1
      clear htk hk hrc
      replace p0 := eq_true p0
      replace q0 := eq_true q0
      go_wp2_with (go_at_call 50; refine (round_calls (kcTo l t) HK.out rc A' A1 c' c1 _ HY.out.2.1 HY.out.2.2.1 (Kd.R_reads' HY.out.2.2.2.2.1).2.2 (Kd.R_reads' HY.out.2.2.2.2.1).2.1).mono ?_; rintro e_ w3 ⟨v3, rfl, ho3, hb3⟩; have H3 := Aside0.mk (Kd.R_lower ho3 HY.out.1.size); have HB3 := Aside0.mk hb3; clear ho3 hb3)
      obtain ⟨A3, c3, hv3⟩ := Kd.R_slice H3.out
      subst hv3
      go_roundg kk
      case measure => omega
      case rel =>
        obtain ⟨htk, hk⟩ := HI.out
        have hrd := rd_lanes (k := rc) (by rw [← HRC.out, hk]; exact rcs_rg t) HK.out
        have e : kcTo l (t + 1) = rdL rc (kcTo l t) := by show rdL (rcs.getD t 0) _ = _; rw [← HRC.out, hk]; rfl
        refine ⟨t + 1, A3, c3, by omega, by go_num, by rw [hrd.1], ⟨HY.out.1.trans (HB3.out.mono HY.out.1.size), ?_, ?_, ?_, Kd.R_below HY.out.2.2.2.2.1 HB3.out, Kd.R_below HY.out.2.2.2.2.2 HB3.out⟩⟩
        · rw [e]
          have := (Kd.R_reads' H3.out).2.2
          rw [hrd.1] at this
          exact this
        · have := (Kd.R_reads' H3.out).2.1
          rw [hrd.1] at this
          exact this
        · intro _
          rw [e]
          have := H3.out
          rw [hrd.1] at this
          exact this
set_option maxHeartbeats 4000000 in
set_option maxRecDepth 100000 in
theorem specPermute_calls (s : ByteArray) (hs : s.size ≤ 1000000000) (w : World) : Calls Try.prog 11 #[.string s] w fun e_ w' => e_ = .returned (.string (perm s)) ∧ Below w.heap.size w w' := by
  have HB := Aside0.mk (Below.refl w.heap.size w)
  by_cases h : s.size = 200
  · have h1 : ((s.size : Int) != 200) = false := by rw [h]; rfl
    have HE := Aside0.mk (perm_eq s h)
    have HLn := Aside0.mk (lanes_f s 25 300 (by omega) hs (by decide))
    have HLa := Aside0.mk (lns_lanes s)
    have HBy := Aside0.mk (bytes_f (kcTo (lns s 25) 24) (kcTo_lanes HLa.out 24) 300 (by decide))
    clear h
    go_enter Try.func11, Try.ntmps11
    go_wp2_with (first
      | (go_at_call 32; refine (spec_l07Lanes.calls 300 s _ _ HLn.out).mono ?_; rintro e_ w1 ⟨v1, rfl, ho1, hb1⟩; have H1 := Aside0.mk (Kd.R_lower ho1 (Nat.zero_le _)); have HB1 := Aside0.mk hb1; clear ho1 hb1; (obtain ⟨A1, c1, hv1⟩ := Kd.R_slice H1.out); subst hv1)
      | (go_at_call 31; refine (specPerm_calls A1 c1 (lns s 25) HLa.out _ (Kd.R_reads' H1.out).2.2 (Kd.R_reads' H1.out).2.1).mono ?_; rintro e_ w2 ⟨v2, rfl, ho2, hb2⟩; have H2 := Aside0.mk (Kd.R_lower ho2 (Nat.zero_le _)); have HB2 := Aside0.mk (HB1.out.trans (hb2.mono HB1.out.size)); clear ho2 hb2; (obtain ⟨A2, c2, hv2⟩ := Kd.R_slice H2.out); subst hv2)
      | (go_at_call 30; refine (spec_l07Bytes.calls 300 A2 c2 (kcTo (lns s 25) 24) _ _ (Kd.R_reads' H2.out).2.2 (Kd.R_reads' H2.out).2.1 HBy.out).mono ?_; rintro e_ w3 ⟨rfl, hb3⟩; have HB3 := Aside0.mk (HB2.out.trans (hb3.mono HB2.out.size)); clear hb3))
    go_ret
    exact ⟨by rw [HE.out]; rfl, HB3.out⟩
  · have h1 : ((s.size : Int) != 200) = true := by rw [bne_iff_ne]; omega
    have HE : Aside0 (perm s = s) := ⟨by unfold perm; rw [if_neg h]⟩
    clear h
    go_enter Try.func11, Try.ntmps11
    go_wp2
    go_ret
    exact ⟨by rw [HE.out]; rfl, HB.out⟩
end Go.Proofs.Ytmocccmffmacdaa.Kec
