/- The program's Permute, walked: lanes of bytes, rounds, bytes of lanes; each round is one-to-one. No condition. -/
import Derived.Laws.BitsAllLaws
import Derived.Test.YtmocccmffmacdaaPRotateLeft64x1
import Derived.Test.YtmocccmffmacdaaProundLanex1
import Derived.Deep.WholeRow
import Derived.StillTailTactics
import Derived.Lib.ConvBytes
import Derived.Laws.BytesArg
import Derived.Outline
import Derived.Deep.RegionLaw
import Derived.Deep.RegionHeld3
namespace Go.Proofs.Ytmocccmffmacdaa.Kec
set_option linter.unusedVariables false
set_option linter.unusedSimpArgs false
theorem sq (c : Nat → Nat → Bool) (m n k : Nat) (h : ∀ x z, c x z = (c (x + m) z ^^ c (x + n) (z + k))) : ∀ x z, c x z = (c (x + 2 * m) z ^^ c (x + 2 * n) (z + 2 * k)) := by
  intro x z
  have h1 := h x z
  have h2 := h (x + m) z
  have h3 := h (x + n) (z + k)
  rw [show x + m + m = x + 2 * m by omega] at h2
  rw [show x + n + n = x + 2 * n by omega, show z + k + k = z + 2 * k by omega, show x + n + m = x + m + n by omega] at h3
  rw [h1, h2, h3]
  cases c (x + 2 * m) z <;> cases c (x + m + n) (z + k) <;> cases c (x + 2 * n) (z + 2 * k) <;> rfl
/-- No column's sum but 0 stays as it is. -/
theorem column_zero (c : Nat → Nat → Bool) (h5 : ∀ x z, c (x + 5) z = c x z) (h64 : ∀ x z, c x (z + 64) = c x z) (h : ∀ x z, c x z = (c (x + 4) z ^^ c (x + 1) (z + 63))) : ∀ x z, c x z = false := by
  have p5 : ∀ k x z, c (x + 5 * k) z = c x z := by
    intro k
    induction k with
    | zero => intro x z; rfl
    | succ k ih => intro x z; rw [show x + 5 * (k + 1) = (x + 5 * k) + 5 by omega, h5, ih]
  have p64 : ∀ k x z, c x (z + 64 * k) = c x z := by
    intro k
    induction k with
    | zero => intro x z; rfl
    | succ k ih => intro x z; rw [show z + 64 * (k + 1) = (z + 64 * k) + 64 by omega, h64, ih]
  have h2 := sq c 4 1 63 h
  have h4 := sq c _ _ _ h2
  have h8 := sq c _ _ _ h4
  have h16 := sq c _ _ _ h8
  have h32 := sq c _ _ _ h16
  have h64' := sq c _ _ _ h32
  have hs : ∀ x z, c x z = (c (x + 1) z ^^ c (x + 4) z) := by
    intro x z
    have := h64' x z
    rw [show x + 2 * (2 * (2 * (2 * (2 * (2 * 4))))) = (x + 1) + 5 * 51 by omega, show x + 2 * (2 * (2 * (2 * (2 * (2 * 1))))) = (x + 4) + 5 * 12 by omega, show z + 2 * (2 * (2 * (2 * (2 * (2 * 63))))) = z + 64 * 63 by omega, p5, p5, p64] at this
    exact this
  intro x z
  have e0 := hs x z
  have e1 := hs (x + 1) z
  have e2 := hs (x + 2) z
  have e3 := hs (x + 3) z
  have e4 := hs (x + 4) z
  rw [show x + 1 + 1 = x + 2 by omega, show x + 1 + 4 = x + 5 by omega, h5] at e1
  rw [show x + 2 + 1 = x + 3 by omega, show x + 2 + 4 = x + 1 + 5 by omega, h5] at e2
  rw [show x + 3 + 1 = x + 4 by omega, show x + 3 + 4 = x + 2 + 5 by omega, h5] at e3
  rw [show x + 4 + 1 = x + 5 by omega, show x + 4 + 4 = x + 3 + 5 by omega, h5, h5] at e4
  revert e0 e1 e2 e3 e4
  cases c x z <;> cases c (x + 1) z <;> cases c (x + 2) z <;> cases c (x + 3) z <;> cases c (x + 4) z <;> decide
def colS (a : Nat → Nat → Bool) (x z : Nat) : Bool := ((((a x z ^^ a (x + 5) z) ^^ a (x + 10) z) ^^ a (x + 15) z) ^^ a (x + 20) z)
def thetaBit (a : Nat → Nat → Bool) (i z : Nat) : Bool := (a i z ^^ (colS a ((i % 5 + 4) % 5) z ^^ colS a ((i % 5 + 1) % 5) ((z + 63) % 64)))
theorem colS_xor (a b : Nat → Nat → Bool) (x z : Nat) : colS (fun i z => a i z ^^ b i z) x z = (colS a x z ^^ colS b x z) := by
  unfold colS
  simp only
  cases a x z <;> cases a (x + 5) z <;> cases a (x + 10) z <;> cases a (x + 15) z <;> cases a (x + 20) z <;> cases b x z <;> cases b (x + 5) z <;> cases b (x + 10) z <;> cases b (x + 15) z <;> cases b (x + 20) z <;> rfl
theorem thetaBit_xor (a b : Nat → Nat → Bool) (i z : Nat) : thetaBit (fun i z => a i z ^^ b i z) i z = (thetaBit a i z ^^ thetaBit b i z) := by
  unfold thetaBit
  rw [colS_xor, colS_xor]
  simp only
  cases a i z <;> cases b i z <;> cases colS a ((i % 5 + 4) % 5) z <;> cases colS b ((i % 5 + 4) % 5) z <;> cases colS a ((i % 5 + 1) % 5) ((z + 63) % 64) <;> cases colS b ((i % 5 + 1) % 5) ((z + 63) % 64) <;> rfl
theorem theta_zero (d : Nat → Nat → Bool) (h : ∀ i z, i < 25 → z < 64 → thetaBit d i z = false) : ∀ i z, i < 25 → z < 64 → d i z = false := by
  have hd : ∀ i z, i < 25 → z < 64 → d i z = (colS d ((i % 5 + 4) % 5) z ^^ colS d ((i % 5 + 1) % 5) ((z + 63) % 64)) := by
    intro i z hi hz
    have := h i z hi hz
    unfold thetaBit at this
    revert this
    cases d i z <;> cases (colS d ((i % 5 + 4) % 5) z ^^ colS d ((i % 5 + 1) % 5) ((z + 63) % 64)) <;> decide
  have hc : ∀ x z, x < 5 → z < 64 → colS d x z = (colS d ((x + 4) % 5) z ^^ colS d ((x + 1) % 5) ((z + 63) % 64)) := by
    intro x z hx hz
    have e0 := hd x z (by omega) hz
    have e1 := hd (x + 5) z (by omega) hz
    have e2 := hd (x + 10) z (by omega) hz
    have e3 := hd (x + 15) z (by omega) hz
    have e4 := hd (x + 20) z (by omega) hz
    rw [show x % 5 = x by omega] at e0
    rw [show (x + 5) % 5 = x by omega] at e1
    rw [show (x + 10) % 5 = x by omega] at e2
    rw [show (x + 15) % 5 = x by omega] at e3
    rw [show (x + 20) % 5 = x by omega] at e4
    have u : colS d x z = ((((d x z ^^ d (x + 5) z) ^^ d (x + 10) z) ^^ d (x + 15) z) ^^ d (x + 20) z) := rfl
    rw [u, e0, e1, e2, e3, e4]
    cases (colS d ((x + 4) % 5) z ^^ colS d ((x + 1) % 5) ((z + 63) % 64)) <;> rfl
  have hz0 := column_zero (fun x z => colS d (x % 5) (z % 64)) (fun x z => by simp only [Nat.add_mod_right]) (fun x z => by simp only [Nat.add_mod_right]) (fun x z => by
    have := hc (x % 5) (z % 64) (by omega) (by omega)
    rw [this, show (x % 5 + 4) % 5 = (x + 4) % 5 by omega, show (x % 5 + 1) % 5 = (x + 1) % 5 by omega, show (z % 64 + 63) % 64 = (z + 63) % 64 by omega])
  intro i z hi hz
  rw [hd i z hi hz]
  have a1 := hz0 (i % 5 + 4) z
  have a2 := hz0 (i % 5 + 1) (z + 63)
  rw [show z % 64 = z by omega] at a1
  rw [a1, a2]
  rfl
/-- The mixing of columns is one-to-one. -/
theorem theta_inj (a b : Nat → Nat → Bool) (h : ∀ i z, i < 25 → z < 64 → thetaBit a i z = thetaBit b i z) : ∀ i z, i < 25 → z < 64 → a i z = b i z := by
  have := theta_zero (fun i z => a i z ^^ b i z) (fun i z hi hz => by rw [thetaBit_xor, h i z hi hz]; cases thetaBit b i z <;> rfl)
  intro i z hi hz
  have h2 := this i z hi hz
  revert h2
  cases a i z <;> cases b i z <;> decide
/-- The mixing of a row of five bits is one-to-one. -/
theorem chi5 : ∀ a0 a1 a2 a3 a4 b0 b1 b2 b3 b4 : Bool, (a0 ^^ (!a1 && a2)) = (b0 ^^ (!b1 && b2)) → (a1 ^^ (!a2 && a3)) = (b1 ^^ (!b2 && b3)) → (a2 ^^ (!a3 && a4)) = (b2 ^^ (!b3 && b4)) → (a3 ^^ (!a4 && a0)) = (b3 ^^ (!b4 && b0)) → (a4 ^^ (!a0 && a1)) = (b4 ^^ (!b0 && b1)) → a0 = b0 ∧ a1 = b1 ∧ a2 = b2 ∧ a3 = b3 ∧ a4 = b4 := by decide
/-! ### Lanes: lists of 25 numbers below 2^64. -/
def Rg (x : Int) : Prop := 0 ≤ x ∧ x < 18446744073709551616
def Lanes (l : List Int) : Prop := l.length = 25 ∧ ∀ i, Rg (l.getD i 0)
def tb (x : Int) (z : Nat) : Bool := x.toNat.testBit z
def bI (l : List Int) (i z : Nat) : Bool := tb (l.getD i 0) z
theorem rg_lt {x : Int} (h : Rg x) : x.toNat < 2 ^ 64 := by unfold Rg at h; omega
theorem tb_ext {x y : Int} (hx : Rg x) (hy : Rg y) (h : ∀ z, z < 64 → tb x z = tb y z) : x = y := by
  have e : x.toNat = y.toNat := by
    apply Nat.eq_of_testBit_eq
    intro z
    by_cases hz : z < 64
    · exact h z hz
    · rw [Nat.testBit_lt_two_pow (Nat.lt_of_lt_of_le (rg_lt hx) (Nat.pow_le_pow_right (by decide) (by omega))), Nat.testBit_lt_two_pow (Nat.lt_of_lt_of_le (rg_lt hy) (Nat.pow_le_pow_right (by decide) (by omega)))]
  unfold Rg at hx hy
  omega
theorem lanes_ext {a b : List Int} (ha : Lanes a) (hb : Lanes b) (h : ∀ i z, i < 25 → z < 64 → bI a i z = bI b i z) : a = b := by
  apply List.ext_getElem (ha.1.trans hb.1.symm)
  intro i h1 h2
  have e : a.getD i 0 = b.getD i 0 := tb_ext (ha.2 i) (hb.2 i) (fun z hz => h i z (by rw [ha.1] at h1; exact h1) hz)
  rw [List.getD_eq_getElem?_getD, List.getD_eq_getElem?_getD, List.getElem?_eq_getElem h1, List.getElem?_eq_getElem h2] at e
  exact e
def xr (x y : Int) : Int := Go.bits .xor .u64 x y
def an (x y : Int) : Int := Go.bits .and .u64 x y
theorem xr_eq {x y : Int} (hx : Rg x) (hy : Rg y) : xr x y = ((x.toNat ^^^ y.toNat : Nat) : Int) := Go.u64_xor x y hx.1 hx.2 hy.1 hy.2
theorem an_eq {x y : Int} (hx : Rg x) (hy : Rg y) : an x y = ((x.toNat &&& y.toNat : Nat) : Int) := Go.u64_and x y hx.1 hx.2 hy.1 hy.2
theorem rg_nat {n : Nat} (h : n < 2 ^ 64) : Rg (n : Int) := by unfold Rg; omega
theorem rg_zero : Rg 0 := by unfold Rg; omega
theorem xr_rg {x y : Int} (hx : Rg x) (hy : Rg y) : Rg (xr x y) := by rw [xr_eq hx hy]; exact rg_nat (Nat.xor_lt_two_pow (rg_lt hx) (rg_lt hy))
theorem an_rg {x y : Int} (hx : Rg x) (hy : Rg y) : Rg (an x y) := by rw [an_eq hx hy]; exact rg_nat (Nat.lt_of_le_of_lt Nat.and_le_left (rg_lt hx))
theorem tb_xr {x y : Int} (hx : Rg x) (hy : Rg y) (z : Nat) : tb (xr x y) z = (tb x z ^^ tb y z) := by rw [xr_eq hx hy]; unfold tb; rw [Int.toNat_natCast, Nat.testBit_xor]
theorem tb_an {x y : Int} (hx : Rg x) (hy : Rg y) (z : Nat) : tb (an x y) z = (tb x z && tb y z) := by rw [an_eq hx hy]; unfold tb; rw [Int.toNat_natCast, Nat.testBit_and]
theorem xr_zero {x : Int} (hx : Rg x) : xr 0 x = x := by rw [xr_eq rg_zero hx]; unfold Rg at hx; simp; omega
/-- the other bits -/
def nt (x : Int) : Int := 18446744073709551615 - x
theorem nt_rg {x : Int} (hx : Rg x) : Rg (nt x) := by unfold Rg nt at *; omega
theorem tb_nt {x : Int} (hx : Rg x) (z : Nat) (hz : z < 64) : tb (nt x) z = !tb x z := by
  have h := rg_lt hx
  have e : (nt x).toNat = 2 ^ 64 - (x.toNat + 1) := by unfold nt Rg at *; omega
  unfold tb
  rw [e, Nat.testBit_two_pow_sub_succ h]
  simp [hz]
/-- x turned left by n bits -/
def rl (x : Int) (n : Nat) : Int := ((x.toNat * 2 ^ n % 2 ^ 64 ||| x.toNat / 2 ^ (64 - n) : Nat) : Int)
theorem rl_rg {x : Int} (hx : Rg x) (n : Nat) : Rg (rl x n) := by
  unfold rl
  exact rg_nat (Nat.or_lt_two_pow (Nat.mod_lt _ (by decide)) (Nat.lt_of_le_of_lt (Nat.div_le_self _ _) (rg_lt hx)))
theorem tb_rl {x : Int} (hx : Rg x) (n z : Nat) (hn : n < 64) (hz : z < 64) : tb (rl x n) z = tb x ((z + 64 - n) % 64) := by
  unfold tb rl
  have h := rg_lt hx
  rw [Int.toNat_natCast, Nat.testBit_or, Nat.testBit_mod_two_pow, Nat.mul_comm, Nat.testBit_two_pow_mul, Nat.testBit_div_two_pow]
  simp only [hz, decide_true, Bool.true_and]
  by_cases hl : n ≤ z
  · have e : (z + 64 - n) % 64 = z - n := by omega
    have f : x.toNat.testBit (z + (64 - n)) = false := Nat.testBit_lt_two_pow (Nat.lt_of_lt_of_le h (Nat.pow_le_pow_right (by decide) (by omega)))
    rw [e, f]
    simp [hl]
  · have e : (z + 64 - n) % 64 = z + (64 - n) := by omega
    rw [e]
    simp [hl]
/-- a row of 25 numbers, told place by place -/
def row25 (f : Nat → Int) : List Int := (List.range 25).map f
theorem row25_len (f : Nat → Int) : (row25 f).length = 25 := by unfold row25; rw [List.length_map, List.length_range]
theorem row25_get (f : Nat → Int) (i : Nat) (h : i < 25) : (row25 f).getD i 0 = f i := by
  unfold row25
  rw [List.getD_eq_getElem?_getD, List.getElem?_map, List.getElem?_range h]
  rfl
theorem row25_out (f : Nat → Int) (i : Nat) (h : ¬ i < 25) : (row25 f).getD i 0 = 0 := by
  rw [List.getD_eq_getElem?_getD, List.getElem?_eq_none (by rw [row25_len]; omega)]
  rfl
theorem row25_lanes {f : Nat → Int} (h : ∀ i, i < 25 → Rg (f i)) : Lanes (row25 f) := by
  refine ⟨row25_len f, fun i => ?_⟩
  by_cases hi : i < 25
  · rw [row25_get f i hi]; exact h i hi
  · rw [row25_out f i hi]; exact rg_zero
def g (l : List Int) (i : Nat) : Int := l.getD i 0
theorem g_rg {l : List Int} (h : Lanes l) (i : Nat) : Rg (g l i) := h.2 i
/-- the sum of a column -/
def col (l : List Int) (x : Nat) : Int := xr (xr (xr (xr (g l x) (g l (x + 5))) (g l (x + 10))) (g l (x + 15))) (g l (x + 20))
def thetaL (l : List Int) : List Int := row25 fun i => xr (g l i) (xr (col l ((i % 5 + 4) % 5)) (rl (col l ((i % 5 + 1) % 5)) 1))
def srcT : List Nat := [0, 6, 12, 18, 24, 3, 9, 10, 16, 22, 1, 7, 13, 19, 20, 4, 5, 11, 17, 23, 2, 8, 14, 15, 21]
def amtT : List Nat := [0, 44, 43, 21, 14, 28, 20, 3, 45, 61, 1, 6, 25, 8, 18, 27, 36, 10, 15, 56, 62, 55, 39, 41, 2]
def dstT : List Nat := [0, 10, 20, 5, 15, 16, 1, 11, 21, 6, 7, 17, 2, 12, 22, 23, 8, 18, 3, 13, 14, 24, 9, 19, 4]
def rhoL (l : List Int) : List Int := row25 fun j => rl (g l (srcT.getD j 0)) (amtT.getD j 0)
def chiL (l : List Int) : List Int := row25 fun i => xr (g l i) (an (nt (g l ((i % 5 + 1) % 5 + 5 * (i / 5)))) (g l ((i % 5 + 2) % 5 + 5 * (i / 5))))
theorem col_rg {l : List Int} (h : Lanes l) (x : Nat) : Rg (col l x) := xr_rg (xr_rg (xr_rg (xr_rg (h.2 _) (h.2 _)) (h.2 _)) (h.2 _)) (h.2 _)
theorem theta_lanes {l : List Int} (h : Lanes l) : Lanes (thetaL l) := row25_lanes fun _ _ => xr_rg (h.2 _) (xr_rg (col_rg h _) (rl_rg (col_rg h _) _))
theorem rho_lanes {l : List Int} (h : Lanes l) : Lanes (rhoL l) := row25_lanes fun _ _ => rl_rg (h.2 _) _
theorem chi_lanes {l : List Int} (h : Lanes l) : Lanes (chiL l) := row25_lanes fun _ _ => xr_rg (h.2 _) (an_rg (nt_rg (h.2 _)) (h.2 _))
theorem tb_col {l : List Int} (h : Lanes l) (x z : Nat) : tb (col l x) z = colS (bI l) x z := by
  unfold col colS bI g
  rw [tb_xr (xr_rg (xr_rg (xr_rg (h.2 _) (h.2 _)) (h.2 _)) (h.2 _)) (h.2 _), tb_xr (xr_rg (xr_rg (h.2 _) (h.2 _)) (h.2 _)) (h.2 _), tb_xr (xr_rg (h.2 _) (h.2 _)) (h.2 _), tb_xr (h.2 _) (h.2 _)]
theorem bI_theta {l : List Int} (h : Lanes l) (i z : Nat) (hi : i < 25) (hz : z < 64) : bI (thetaL l) i z = thetaBit (bI l) i z := by
  unfold bI thetaL
  rw [row25_get _ i hi, tb_xr (g_rg h _) (xr_rg (col_rg h _) (rl_rg (col_rg h _) _)), tb_xr (col_rg h _) (rl_rg (col_rg h _) _), tb_rl (col_rg h _) 1 z (by decide) hz, tb_col h, tb_col h]
  rfl
theorem theta_injL {a b : List Int} (ha : Lanes a) (hb : Lanes b) (h : thetaL a = thetaL b) : a = b :=
  lanes_ext ha hb (theta_inj _ _ fun i z hi hz => by rw [← bI_theta ha i z hi hz, ← bI_theta hb i z hi hz, h])
theorem bI_rho {l : List Int} (h : Lanes l) (j z : Nat) (hj : j < 25) (hz : z < 64) : bI (rhoL l) j z = bI l (srcT.getD j 0) ((z + 64 - amtT.getD j 0) % 64) := by
  have hn : amtT.getD j 0 < 64 := by
    have : ∀ j, j < 25 → amtT.getD j 0 < 64 := by decide
    exact this j hj
  unfold bI rhoL
  rw [row25_get _ j hj, tb_rl (g_rg h _) _ z hn hz]
  rfl
theorem rho_injL {a b : List Int} (ha : Lanes a) (hb : Lanes b) (h : rhoL a = rhoL b) : a = b := by
  refine lanes_ext ha hb fun i z hi hz => ?_
  have hd : ∀ i, i < 25 → dstT.getD i 0 < 25 ∧ srcT.getD (dstT.getD i 0) 0 = i ∧ amtT.getD (dstT.getD i 0) 0 < 64 := by decide
  obtain ⟨d1, d2, d3⟩ := hd i hi
  have e1 := bI_rho ha (dstT.getD i 0) ((z + amtT.getD (dstT.getD i 0) 0) % 64) d1 (Nat.mod_lt _ (by decide))
  have e2 := bI_rho hb (dstT.getD i 0) ((z + amtT.getD (dstT.getD i 0) 0) % 64) d1 (Nat.mod_lt _ (by decide))
  rw [d2] at e1 e2
  have ez : ((z + amtT.getD (dstT.getD i 0) 0) % 64 + 64 - amtT.getD (dstT.getD i 0) 0) % 64 = z := by omega
  rw [ez] at e1 e2
  rw [← e1, ← e2, h]
theorem bI_chi {l : List Int} (h : Lanes l) (i z : Nat) (hi : i < 25) (hz : z < 64) : bI (chiL l) i z = (bI l i z ^^ (!bI l ((i % 5 + 1) % 5 + 5 * (i / 5)) z && bI l ((i % 5 + 2) % 5 + 5 * (i / 5)) z)) := by
  unfold bI chiL
  rw [row25_get _ i hi, tb_xr (g_rg h _) (an_rg (nt_rg (g_rg h _)) (g_rg h _)), tb_an (nt_rg (g_rg h _)) (g_rg h _), tb_nt (g_rg h _) z hz]
  rfl
theorem chi_injL {a b : List Int} (ha : Lanes a) (hb : Lanes b) (h : chiL a = chiL b) : a = b := by
  refine lanes_ext ha hb fun i z hi hz => ?_
  have key : ∀ y x, y < 5 → x < 5 → bI a (x + 5 * y) z = bI b (x + 5 * y) z := by
    intro y x hy hx
    have e : ∀ k, k < 5 → (bI a (k + 5 * y) z ^^ (!bI a ((k + 1) % 5 + 5 * y) z && bI a ((k + 2) % 5 + 5 * y) z)) = (bI b (k + 5 * y) z ^^ (!bI b ((k + 1) % 5 + 5 * y) z && bI b ((k + 2) % 5 + 5 * y) z)) := by
      intro k hk
      have e1 := bI_chi ha (k + 5 * y) z (by omega) hz
      have e2 := bI_chi hb (k + 5 * y) z (by omega) hz
      rw [show (k + 5 * y) % 5 = k by omega, show (k + 5 * y) / 5 = y by omega] at e1 e2
      rw [← e1, ← e2, h]
    have c := chi5 _ _ _ _ _ _ _ _ _ _ (e 0 (by decide)) (e 1 (by decide)) (e 2 (by decide)) (e 3 (by decide)) (e 4 (by decide))
    obtain rfl | rfl | rfl | rfl | rfl : x = 0 ∨ x = 1 ∨ x = 2 ∨ x = 3 ∨ x = 4 := by omega
    · exact c.1
    · exact c.2.1
    · exact c.2.2.1
    · exact c.2.2.2.1
    · exact c.2.2.2.2
  have := key (i / 5) (i % 5) (by omega) (by omega)
  rw [show i % 5 + 5 * (i / 5) = i by omega] at this
  exact this
/-- one round, with its number -/
def rdL (k : Int) (l : List Int) : List Int := (chiL (rhoL (thetaL l))).set 0 (xr (g (chiL (rhoL (thetaL l))) 0) k)
theorem set0_get (l : List Int) (x : Int) (i : Nat) (h : 0 < l.length) : (l.set 0 x).getD i 0 = if i = 0 then x else l.getD i 0 := by
  cases l with
  | nil => cases h
  | cons y l => cases i <;> simp
theorem set0_lanes {l : List Int} (h : Lanes l) {x : Int} (hx : Rg x) : Lanes (l.set 0 x) := by
  refine ⟨by rw [List.length_set]; exact h.1, fun i => ?_⟩
  rw [set0_get _ _ _ (by rw [h.1]; decide)]
  split
  · exact hx
  · exact h.2 i
theorem rd_lanes {k : Int} (hk : Rg k) {l : List Int} (h : Lanes l) : Lanes (rdL k l) :=
  set0_lanes (chi_lanes (rho_lanes (theta_lanes h))) (xr_rg ((chi_lanes (rho_lanes (theta_lanes h))).2 0) hk)
theorem xr_inj {x y k : Int} (hx : Rg x) (hy : Rg y) (hk : Rg k) (h : xr x k = xr y k) : x = y := by
  refine tb_ext hx hy fun z hz => ?_
  have e : tb (xr x k) z = tb (xr y k) z := by rw [h]
  rw [tb_xr hx hk, tb_xr hy hk] at e
  revert e
  cases tb x z <;> cases tb y z <;> cases tb k z <;> decide
theorem rd_inj {k : Int} (hk : Rg k) {a b : List Int} (ha : Lanes a) (hb : Lanes b) (h : rdL k a = rdL k b) : a = b := by
  have ca := chi_lanes (rho_lanes (theta_lanes ha))
  have cb := chi_lanes (rho_lanes (theta_lanes hb))
  refine theta_injL ha hb (rho_injL (theta_lanes ha) (theta_lanes hb) (chi_injL (rho_lanes (theta_lanes ha)) (rho_lanes (theta_lanes hb)) ?_))
  unfold rdL at h
  have h0 : xr (g (chiL (rhoL (thetaL a))) 0) k = xr (g (chiL (rhoL (thetaL b))) 0) k := by
    have := congrArg (fun l => l.getD 0 0) h
    rw [set0_get _ _ _ (by rw [ca.1]; decide), set0_get _ _ _ (by rw [cb.1]; decide)] at this
    simpa using this
  have h0' := xr_inj (ca.2 0) (cb.2 0) hk h0
  apply List.ext_getElem (ca.1.trans cb.1.symm)
  intro i h1 h2
  have e : (chiL (rhoL (thetaL a))).getD i 0 = (chiL (rhoL (thetaL b))).getD i 0 := by
    by_cases hi : i = 0
    · subst hi; exact h0'
    · have := congrArg (fun l => l.getD i 0) h
      rw [set0_get _ _ _ (by rw [ca.1]; decide), set0_get _ _ _ (by rw [cb.1]; decide), if_neg hi, if_neg hi] at this
      exact this
  rw [List.getD_eq_getElem?_getD, List.getD_eq_getElem?_getD, List.getElem?_eq_getElem h1, List.getElem?_eq_getElem h2] at e
  exact e
/-- all rounds -/
def rcs : List Int := [1, 32898, 9223372036854808714, 9223372039002292224, 32907, 2147483649, 9223372039002292353, 9223372036854808585, 138, 136, 2147516425, 2147483658, 2147516555, 9223372036854775947, 9223372036854808713, 9223372036854808579, 9223372036854808578, 9223372036854775936, 32778, 9223372039002259466, 9223372039002292353, 9223372036854808704, 2147483649, 9223372039002292232]
def kcTo (l : List Int) : Nat → List Int
  | 0 => l
  | t + 1 => rdL (rcs.getD t 0) (kcTo l t)
theorem rcs_rg (t : Nat) : Rg (rcs.getD t 0) := by
  by_cases h : t < 24
  · have : ∀ t, t < 24 → 0 ≤ rcs.getD t 0 ∧ rcs.getD t 0 < 18446744073709551616 := by decide
    exact this t h
  · rw [List.getD_eq_getElem?_getD, List.getElem?_eq_none (by show 24 ≤ t; omega)]; exact rg_zero
theorem kcTo_lanes {l : List Int} (h : Lanes l) : ∀ t, Lanes (kcTo l t)
  | 0 => h
  | t + 1 => rd_lanes (rcs_rg t) (kcTo_lanes h t)
theorem kcTo_inj {a b : List Int} (ha : Lanes a) (hb : Lanes b) : ∀ t, kcTo a t = kcTo b t → a = b
  | 0, h => h
  | t + 1, h => kcTo_inj ha hb t (rd_inj (rcs_rg t) (kcTo_lanes ha t) (kcTo_lanes hb t) h)
end Go.Proofs.Ytmocccmffmacdaa.Kec
namespace Go.Proofs.Ytmocccmffmacdaa.Kec
open Go.RowKit Go.Proofs.YtmocccmffmacdaaW.PrintWords Go.Proofs.YtmocccmffmacdaaW.PrintLast Go.Proofs.YtmocccmffmacdaaW.PrintMore Go.Proofs.Ytmocccmffmacdaa.PRotateLeft64 Go.Proofs.Ytmocccmffmacdaa.ProundLane
set_option linter.unusedVariables false
set_option linter.unusedSimpArgs false
set_option maxRecDepth 100000

def cells (k : IntKind) (l : List Int) : Array Value := (l.map fun z => Value.int k z).toArray
abbrev arr (l : List Int) : Value := .agg (cells .u64 l)
theorem size_cells (k : IntKind) (l : List Int) : (cells k l).size = l.length := by simp [cells]
theorem under49 : Try.prog.underlying 49 = some (.array 25 47) := by kernel_rfl
theorem under74 : Try.prog.underlying 74 = some (.array 5 47) := by kernel_rfl
theorem size49 : (Try.prog.info? 49).map (·.size) = some 25 := by kernel_rfl
theorem size74 : (Try.prog.info? 74).map (·.size) = some 5 := by kernel_rfl
/-- A block that holds a list of lanes. -/
abbrev Blk (w : World) (b : Nat) (t : TypeId) (l : List Int) : Prop := w.heap[b]? = some (.cells (cells .u64 l) t (0, 0))
theorem cells_get (l : List Int) (i : Nat) (h : i < l.length) : (cells .u64 l)[i]? = some (.int .u64 (l.getD i 0)) := by
  unfold cells
  rw [List.getElem?_toArray, List.getElem?_map, List.getD_eq_getElem?_getD, List.getElem?_eq_getElem h]
  rfl
theorem blk_cell_ {w : World} {b : Nat} {t : TypeId} {l : List Int} (h : Blk w b t l) (i : Nat) (hi : i < l.length) : w.cell? ⟨b, i, none⟩ = some (.int .u64 (l.getD i 0)) := by
  rw [cell_of_row w b i _ t _ h, cells_get l i hi]
theorem blk_froz {w : World} {b : Nat} {t : TypeId} {l : List Int} (h : Blk w b t l) (i : Nat) : w.frozen? ⟨b, i, none⟩ = false := blk_frozen h _
theorem cells_set (l : List Int) (i : Nat) (z : Int) : (cells .u64 l).setIfInBounds i (.int .u64 z) = cells .u64 (l.set i z) := by
  unfold cells
  rw [List.map_set]
  simp
theorem blk_put_ {w : World} {b : Nat} {t : TypeId} {l : List Int} (h : Blk w b t l) (i : Nat) (z : Int) : Blk (w.setCell ⟨b, i, none⟩ (.int .u64 z)) b t (l.set i z) :=
  blk_put h i _ (cells_set l i z)
theorem sz_alloc (w : World) (o : Obj) : (w.alloc o).heap.size = w.heap.size + 1 := by
  show (w.heap.push o).size = _
  simp
theorem blk_row {w : World} {b : Nat} {t : TypeId} {l l' : List Int} (h : Blk w b t l) : Blk (w.setRow b (cells .u64 l')) b t l' := setRow_heap w b _ _ t _ h
theorem setRow_below {w0 w : World} {B b : Nat} (h : Below B w0 w) (hb : B ≤ b) (cs : Array Value) : Below B w0 (w.setRow b cs) := by
  refine ⟨h.os, h.tape, h.output, by rw [size_setRow]; exact h.size, fun k hk => ?_⟩
  rw [← h.block k hk]
  unfold World.setRow
  show (w.heap.modify b _)[k]? = _
  rw [Array.getElem?_modify, if_neg (by omega)]
theorem blk_row_far {w : World} {b b' : Nat} {t : TypeId} {l : List Int} (h : Blk w b t l) (hne : b' ≠ b) (cs : Array Value) : Blk (w.setRow b' cs) b t l := by
  refine Eq.trans ?_ h
  unfold World.setRow
  show (w.heap.modify b' _)[b]? = _
  rw [Array.getElem?_modify, if_neg hne]
theorem cells_one (l : List Int) : (cells .u64 l).all (·.oneCell') = true := by
  unfold cells
  simp [Value.oneCell']
section
variable {ops : Array Oper} {rest : List Oper} {o : Oper} {a : Act} {w : World} {Q : Exit → Act → World → Prop}
theorem ld49 {b : Nat} {t : TypeId} {l : List Int} (hb : Blk w b t l) (hl : l.length = 25) (x : Operand) (hgd : o.guard = none) (ho : o.op = .load 49 x) (hx : a.eval x = .pointer (some ⟨b, 0, none⟩)) (h : wpList Try.prog ops Q rest (a.put o.dst (arr l)) w) : wpList Try.prog ops Q (o :: rest) a w :=
  wpList_load_row hgd 49 x ho b hx t _ _ _ hb under49 rfl (by rw [size49, size_cells, hl]) h
theorem st49 {b : Nat} {t : TypeId} {l l' : List Int} (hb : Blk w b t l) (hl : l.length = 25) (hl' : l'.length = 25) (x y : Operand) (hgd : o.guard = none) (ho : o.op = .store 49 x y) (hx : a.eval x = .pointer (some ⟨b, 0, none⟩)) (hy : a.eval y = arr l') (h : wpList Try.prog ops Q rest (a.put o.dst undef) (w.setRow b (cells .u64 l'))) : wpList Try.prog ops Q (o :: rest) a w :=
  wpList_store_row hgd 49 x y ho b _ hx hy t _ hb (by rw [size49, size_cells, hl']) (by rw [size_cells, size_cells, hl, hl']) (cells_one l') h
end
theorem ret49 {fn : Func} {p : Tmp} (h : fn.results = #[.cell p 49]) (tmps : Array Value) (w : World) {b : Nat} {t : TypeId} {l : List Int} (hb : Blk w b t l) (hl : l.length = 25) (hp : tmps.getD p undef = .pointer (some ⟨b, 0, none⟩)) : (results fn tmps).run Try.prog w = .ok (arr l) w :=
  results_cell_row h tmps w b t _ _ _ hp hb under49 rfl (by rw [size49, size_cells, hl])
theorem wp_world {P : Program} {c : Code} {Q : Exit → Act → World → Prop} {a : Act} {W : World} (h : ∀ V, V = W → c.wp P Q a V) : c.wp P Q a W := h W rfl
theorem wpl_world {P : Program} {ops : Array Oper} {os : List Oper} {Q : Exit → Act → World → Prop} {a : Act} {W : World} (h : ∀ V, V = W → wpList P ops Q os a V) : wpList P ops Q os a W := h W rfl
def zero25 : List Int := [0, 0, 0, 0, 0, 0, 0, 0, 0, 0, 0, 0, 0, 0, 0, 0, 0, 0, 0, 0, 0, 0, 0, 0, 0]
end Go.Proofs.Ytmocccmffmacdaa.Kec
namespace Go.Proofs.Ytmocccmffmacdaa.Kec
open Go.RowKit Go.Proofs.YtmocccmffmacdaaW.PrintWords Go.Proofs.YtmocccmffmacdaaW.PrintLast Go.Proofs.YtmocccmffmacdaaW.PrintMore Go.Proofs.Ytmocccmffmacdaa.PRotateLeft64 Go.Proofs.Ytmocccmffmacdaa.ProundLane
set_option linter.unusedVariables false
set_option linter.unusedSimpArgs false
def laStep (s : ByteArray) (l : List Int) (i : Nat) : List Int := l.set (i / 8) (Go.bits .or .u64 (l.getD (i / 8) 0) (IntKind.u64.wrap (bt s i * 2 ^ (8 * (i % 8)))))
def laTo (s : ByteArray) : Nat → List Int
  | 0 => zero25
  | i + 1 => laStep s (laTo s i) i
def laOf (s : ByteArray) : List Int := laTo s 200
theorem laTo_len (s : ByteArray) : ∀ i, (laTo s i).length = 25
  | 0 => rfl
  | i + 1 => by simp [laTo, laStep, laTo_len s i]
set_option maxHeartbeats 4000000 in
set_option maxRecDepth 100000 in
theorem lanesOf_calls (s : ByteArray) (hs : 200 ≤ s.size) (w : World) : Calls Try.prog 34 #[.string s] w fun e_ w' => e_ = .returned (arr (laOf s)) ∧ Below w.heap.size w w' := by
  have HB := Aside0.mk (Below.refl w.heap.size w)
  go_enter Try.func34, Try.ntmps34
  go_wp2
  go_loopg [5] 200 (fun k s5 wx => ∃ i : Nat, i + k = 200 ∧ s5 = .int .i64 i ∧ Aside0 (Below w.heap.size w wx ∧ Blk wx (w.heap.size + 1) 49 (laTo s i) ∧ Blk wx w.heap.size 49 zero25))
  case atStart => exact ⟨0, by omega, rfl, ⟨(HB.out.alloc (Nat.le_refl _) _).alloc (by rw [sz_alloc]; omega) _, by unfold Blk; rw [← sz_alloc w (.cells _ 49)]; exact heap_alloc_last _ _, blk_alloc (blk_new _ _) _⟩⟩
  case round =>
    obtain ⟨i, hik, rfl, HB1⟩ := hrel
    cases gk with
    | zero =>
      obtain rfl : i = 200 := by omega
      clear hik
      have hi : ¬ ((200 : Int) < 200) := by decide
      have A1 := Aside0.mk HB1.out.2.1
      have A0 := Aside0.mk HB1.out.2.2
      go_wp2_with (first | ((with_reducible refine gate_dst (N := 23) rfl ?_); refine ld49 A1.out (laTo_len s 200) (.tmp 3) rfl rfl rfl ?_) | ((with_reducible refine gate_store (t := 49) (p := 2) rfl ?_); refine st49 A0.out rfl (laTo_len s 200) (.tmp 2) (.tmp 23) rfl rfl rfl rfl ?_))
      (try simp only [Exit.inBlock, Exit.then])
      exact bodyPost_ret (ret49 rfl _ _ (blk_row A0.out) (laTo_len s 200) rfl) rfl ⟨rfl, setRow_below HB1.out.1 (Nat.le_refl _) _⟩
    | succ kk =>
      have hi : (i : Int) < 200 := by omega
      obtain ⟨j, hj⟩ : ∃ j, i / 8 = j := ⟨_, rfl⟩
      have hj8 : (j : Int) < 25 := by omega
      have hw4 : IntKind.i64.wrap ((i : Int) / 8) = (j : Int) := by rw [IntKind.wrap_i64]; omega
      obtain ⟨m, hm⟩ : ∃ m, 8 * (i % 8) = m := ⟨_, rfl⟩
      have hm64 : (m : Int) < 64 := by omega
      have hw5 : IntKind.i64.wrap (8 * ((i : Int) % 8)) = (m : Int) := by rw [IntKind.wrap_i64]; omega
      have hl := laTo_len s i
      obtain ⟨x, hx⟩ : ∃ x, (laTo s i).getD j 0 = x := ⟨_, rfl⟩
      have hc := blk_cell_ HB1.out.2.1 j (by rw [hl]; omega)
      rw [hx] at hc
      have hf := blk_froz HB1.out.2.1 j
      have hb0 : (0 : Int) ≤ (i : Int) ∧ (i : Int) < (s.size : Int) := by omega
      have hbt : ∀ h : i < s.size, ((s[i]'h).toNat : Int) = bt s i := bt_at s i
      have hbr := bt_range s i
      obtain ⟨z, hz⟩ : ∃ z, bt s i = z := ⟨_, rfl⟩
      simp only [hz] at hbt hbr
      have hzm : z % 18446744073709551616 = z := by omega
      have HI := Aside0.mk (And.intro hik (And.intro hj (And.intro hx (And.intro hz hm))))
      clear hik hj hx hz hl hm
      go_wp2
      go_region
      go_wp2
      go_roundg kk
      case measure => omega
      case rel =>
        obtain ⟨hik, hj, hx, hz, hm⟩ := HI.out
        refine ⟨i + 1, by omega, by go_num, ⟨(HB1.out.1.setCell (Nat.le_succ _) _).drew, ?_, (blk_far HB1.out.2.2 (by simp) _)⟩⟩
        have := blk_put_ HB1.out.2.1 j (bits .or .u64 x (IntKind.u64.wrap (z * 2 ^ m)))
        show Blk _ _ _ (laStep s (laTo s i) i)
        unfold laStep
        rw [hj, hx, hz, hm]
        exact this
end Go.Proofs.Ytmocccmffmacdaa.Kec
namespace Go.Proofs.Ytmocccmffmacdaa.Kec
open Go.RowKit Go.Proofs.YtmocccmffmacdaaW.PrintWords Go.Proofs.YtmocccmffmacdaaW.PrintLast Go.Proofs.YtmocccmffmacdaaW.PrintMore Go.Proofs.Ytmocccmffmacdaa.PRotateLeft64 Go.Proofs.Ytmocccmffmacdaa.ProundLane
set_option linter.unusedVariables false
set_option linter.unusedSimpArgs false

/-- A block that holds bytes. -/
abbrev BlkB (w : World) (b : Nat) (l : List Int) : Prop := w.heap[b]? = some (.cells (cells .u8 l) 5 (0, 0))
theorem cells_getB (l : List Int) (i : Nat) (h : i < l.length) : (cells .u8 l)[i]? = some (.int .u8 (l.getD i 0)) := by
  unfold cells
  rw [List.getElem?_toArray, List.getElem?_map, List.getD_eq_getElem?_getD, List.getElem?_eq_getElem h]
  rfl
theorem blkB_cell {w : World} {b : Nat} {l : List Int} (h : BlkB w b l) (i : Nat) (hi : i < l.length) : w.cell? ⟨b, i, none⟩ = some (.int .u8 (l.getD i 0)) := by
  rw [cell_of_row w b i _ 5 _ h, cells_getB l i hi]
theorem blkB_froz {w : World} {b : Nat} {l : List Int} (h : BlkB w b l) (i : Nat) : w.frozen? ⟨b, i, none⟩ = false := blk_frozen h _
theorem blkB_put {w : World} {b : Nat} {l : List Int} (h : BlkB w b l) (i : Nat) (z : Int) : BlkB (w.setCell ⟨b, i, none⟩ (.int .u8 z)) b (l.set i z) :=
  blk_put h i _ (by unfold cells; rw [List.map_set]; simp)
theorem blkB_string {w : World} {b n c : Nat} {l : List Int} (h : BlkB w b l) (hn : n = l.length) : (convert 37 9 (.slice (some ⟨b, 0, none⟩) n c)).run Try.prog w = .ok (.string (strOfNums l)) w :=
  run_convert_bytes_arg w 37 5 Try.underlying37 Try.underlying5 b 0 n c l hn.symm (fun i hi => by rw [Nat.zero_add]; exact blkB_cell h i (by omega)) 9 Try.underlying9
def txStep (l out : List Int) (i : Nat) : List Int := out.set i ((g l (i / 8) / 2 ^ (8 * (i % 8))) % 256)
def txTo (l : List Int) : Nat → List Int
  | 0 => List.replicate 200 0
  | i + 1 => txStep l (txTo l i) i
theorem txTo_len (l : List Int) : ∀ i, (txTo l i).length = 200
  | 0 => rfl
  | i + 1 => by simp [txTo, txStep, txTo_len l i]
set_option maxHeartbeats 4000000 in
set_option maxRecDepth 100000 in
theorem text_calls (l : List Int) (hl : l.length = 25) (w : World) : Calls Try.prog 35 #[arr l] w fun e_ w' => e_ = .returned (.string (strOfNums (txTo l 200))) ∧ Below w.heap.size w w' := by
  have HB := Aside0.mk (Below.refl w.heap.size w)
  have hmk : ∀ w : World, (Instr.makeSlice 37 (.int .i64 200) (.int .i64 200)).run Try.prog w = .ok (.slice (some ⟨w.heap.size, 0, none⟩) 200 200) (w.alloc (.cells (cells .u8 (List.replicate 200 0)) 5)) := fun _ => by kernel_rfl
  go_enter Try.func35, Try.ntmps35
  go_wp2
  clear hmk
  go_loopg [8] 200 (fun k s8 wx => ∃ i : Nat, i + k = 200 ∧ s8 = .int .i64 i ∧ Aside0 (Below w.heap.size w wx ∧ Blk wx w.heap.size 49 l ∧ BlkB wx (w.heap.size + 1) (txTo l i)))
  case atStart => exact ⟨0, by omega, rfl, ⟨(HB.out.alloc (Nat.le_refl _) _).alloc (by rw [sz_alloc]; omega) _, blk_alloc (blk_new _ _) _, by unfold BlkB; rw [← sz_alloc w (.cells (cells .u64 l) 49)]; exact heap_alloc_last _ _⟩⟩
  case round =>
    obtain ⟨i, hik, rfl, HX⟩ := hrel
    cases gk with
    | zero =>
      obtain rfl : i = 200 := by omega
      clear hik
      have hi : ¬ ((200 : Int) < 200) := by decide
      have hcv := blkB_string (c := 200) HX.out.2.2 (txTo_len l 200).symm
      obtain ⟨T, hT⟩ : ∃ T, strOfNums (txTo l 200) = T := ⟨_, rfl⟩
      rw [hT] at hcv
      have HT := Aside0.mk hT
      clear hT
      go_wp2
      go_ret
      exact ⟨by rw [HT.out]; rfl, HX.out.1⟩
    | succ kk =>
      have hi : (i : Int) < 200 := by omega
      obtain ⟨j, hj⟩ : ∃ j, i / 8 = j := ⟨_, rfl⟩
      have hj8 : (j : Int) < 25 := by omega
      have hw4 : IntKind.i64.wrap ((i : Int) / 8) = (j : Int) := by rw [IntKind.wrap_i64]; omega
      obtain ⟨m, hm⟩ : ∃ m, 8 * (i % 8) = m := ⟨_, rfl⟩
      have hm64 : (m : Int) < 64 := by omega
      have hw5 : IntKind.i64.wrap (8 * ((i : Int) % 8)) = (m : Int) := by rw [IntKind.wrap_i64]; omega
      obtain ⟨x, hx⟩ : ∃ x, g l j = x := ⟨_, rfl⟩
      have hc : wr.cell? ⟨w.heap.size, j, none⟩ = some (.int .u64 x) := hx ▸ blk_cell_ HX.out.2.1 j (by omega)
      have hc2 := blkB_cell HX.out.2.2 i (by rw [txTo_len]; omega)
      have hf2 := blkB_froz HX.out.2.2 i
      have HI := Aside0.mk (And.intro hik (And.intro hj (And.intro hx hm)))
      clear hik hj hx hm
      go_wp2
      go_roundg kk
      case measure => omega
      case rel =>
        obtain ⟨hik, hj, hx, hm⟩ := HI.out
        refine ⟨i + 1, by omega, by go_num, ⟨(HX.out.1.setCell (Nat.le_succ _) _), blk_far HX.out.2.1 (by simp) _, ?_⟩⟩
        have := blkB_put HX.out.2.2 i ((x / 2 ^ m) % 256)
        show BlkB _ _ (txStep l (txTo l i) i)
        unfold txStep
        rw [hj, hx, hm]
        exact this
end Go.Proofs.Ytmocccmffmacdaa.Kec
namespace Go.Proofs.Ytmocccmffmacdaa.Kec
open Go.RowKit Go.Proofs.YtmocccmffmacdaaW.PrintWords Go.Proofs.YtmocccmffmacdaaW.PrintLast Go.Proofs.YtmocccmffmacdaaW.PrintMore Go.Proofs.Ytmocccmffmacdaa.PRotateLeft64 Go.Proofs.Ytmocccmffmacdaa.ProundLane
set_option linter.unusedVariables false
set_option linter.unusedSimpArgs false

def chStep (l out : List Int) (n : Nat) : List Int := out.set n (xr (g l n) (an (Go.bits .xor .u64 IntKind.u64.max (g l ((n % 5 + 1) % 5 + 5 * (n / 5)))) (g l ((n % 5 + 2) % 5 + 5 * (n / 5)))))
def chTo (l : List Int) : Nat → List Int
  | 0 => zero25
  | n + 1 => chStep l (chTo l n) n
theorem chTo_len (l : List Int) : ∀ i, (chTo l i).length = 25
  | 0 => rfl
  | i + 1 => by simp [chTo, chStep, chTo_len l i]
set_option maxHeartbeats 4000000 in
set_option maxRecDepth 100000 in
theorem chi_calls (l : List Int) (hl : l.length = 25) (w : World) : Calls Try.prog 53 #[arr l] w fun e_ w' => e_ = .returned (arr (chTo l 25)) ∧ Below w.heap.size w w' := by
  have HB := Aside0.mk (Below.refl w.heap.size w)
  go_enter Try.func53, Try.ntmps53
  go_wp2
  go_loopg [6] 5 (fun k s6 wx => ∃ y : Nat, y + k = 5 ∧ s6 = .int .i64 y ∧ Aside0 (Below w.heap.size w wx ∧ Blk wx w.heap.size 49 l ∧ Blk wx (w.heap.size + 1) 49 zero25 ∧ Blk wx (w.heap.size + 2) 49 (chTo l (5 * y))))
  case atStart => exact ⟨0, by omega, rfl, ⟨((HB.out.alloc (Nat.le_refl _) _).alloc (by rw [sz_alloc]; omega) _).alloc (by rw [sz_alloc, sz_alloc]; omega) _, blk_alloc (blk_alloc (blk_new _ _) _) _, by unfold Blk; rw [← sz_alloc w (.cells _ 49)]; exact blk_alloc (heap_alloc_last _ _) _, by unfold Blk; rw [show w.heap.size + 2 = ((w.alloc (.cells (cells .u64 l) 49)).alloc (.cells (cells .u64 zero25) 49)).heap.size by rw [sz_alloc, sz_alloc]]; exact heap_alloc_last _ _⟩⟩
  case round =>
    obtain ⟨y, hyk, rfl, HX⟩ := hrel
    cases gk with
    | zero =>
      obtain rfl : y = 5 := by omega
      clear hyk
      have hi : ¬ ((5 : Int) < 5) := by decide
      have A1 := Aside0.mk HX.out.2.2.2
      have A0 := Aside0.mk HX.out.2.2.1
      have HL := Aside0.mk (chTo_len l (5 * 5))
      go_wp2_with (first | ((with_reducible refine gate_dst (N := 44) rfl ?_); refine ld49 A1.out HL.out (.tmp 3) rfl rfl rfl ?_) | ((with_reducible refine gate_store (t := 49) (p := 2) rfl ?_); refine st49 A0.out rfl HL.out (.tmp 2) (.tmp 44) rfl rfl rfl rfl ?_))
      (try simp only [Exit.inBlock, Exit.then])
      exact bodyPost_ret (ret49 rfl _ _ (blk_row A0.out) HL.out rfl) rfl ⟨rfl, setRow_below HX.out.1 (by omega) _⟩
    | succ yy =>
      have hy : (y : Int) < 5 := by omega
      have HI := Aside0.mk hyk
      clear hyk
      go_wp2
      go_loopg [9] 5 (fun k s9 wx => ∃ x : Nat, x + k = 5 ∧ s9 = .int .i64 x ∧ Aside0 (Below w.heap.size w wx ∧ Blk wx w.heap.size 49 l ∧ Blk wx (w.heap.size + 1) 49 zero25 ∧ Blk wx (w.heap.size + 2) 49 (chTo l (5 * y + x))))
      case atStart => exact ⟨0, by omega, rfl, HX⟩
      case round =>
        obtain ⟨x, hxk, rfl, HY⟩ := hrel
        cases gk with
        | zero =>
          obtain rfl : x = 5 := by omega
          clear hxk
          go_wp2
          go_roundg yy
          case measure => omega
          case rel => exact ⟨y + 1, by have := HI.out; omega, by go_num, HY⟩
        | succ xx =>
          have hx : (x : Int) < 5 := by omega
          have hcl := chTo_len l (5 * y + x)
          have i0 : x + 5 * y < 25 := by omega
          have i1 : (x + 1) % 5 + 5 * y < 25 := by omega
          have i2 : (x + 2) % 5 + 5 * y < 25 := by omega
          obtain ⟨z0, hz0⟩ : ∃ z, g l (x + 5 * y) = z := ⟨_, rfl⟩
          obtain ⟨z1, hz1⟩ : ∃ z, g l ((x + 1) % 5 + 5 * y) = z := ⟨_, rfl⟩
          obtain ⟨z2, hz2⟩ : ∃ z, g l ((x + 2) % 5 + 5 * y) = z := ⟨_, rfl⟩
          have c0 : wr.cell? ⟨w.heap.size, x + 5 * y, none⟩ = some (.int .u64 z0) := hz0 ▸ blk_cell_ HY.out.2.1 (x + 5 * y) (by omega)
          have c1 : wr.cell? ⟨w.heap.size, (x + 1) % 5 + 5 * y, none⟩ = some (.int .u64 z1) := hz1 ▸ blk_cell_ HY.out.2.1 ((x + 1) % 5 + 5 * y) (by omega)
          have c2 : wr.cell? ⟨w.heap.size, (x + 2) % 5 + 5 * y, none⟩ = some (.int .u64 z2) := hz2 ▸ blk_cell_ HY.out.2.1 ((x + 2) % 5 + 5 * y) (by omega)
          have c3 := blk_cell_ HY.out.2.2.2 (x + 5 * y) (by omega)
          have f3 := blk_froz HY.out.2.2.2 (x + 5 * y)
          have HJ := Aside0.mk (And.intro hxk (And.intro hz0 (And.intro hz1 hz2)))
          clear hxk hz0 hz1 hz2 hcl i0 i1 i2
          go_wp2
          go_region
          go_wp2
          go_roundg xx
          case measure => omega
          case rel =>
            obtain ⟨hxk, hz0, hz1, hz2⟩ := HJ.out
            refine ⟨x + 1, by omega, by go_num, ⟨(HY.out.1.setCell (by show _ ≤ w.heap.size + 2; omega) _).drew, blk_far HY.out.2.1 (by show _ ≠ w.heap.size + 2; omega) _, blk_far HY.out.2.2.1 (by show _ ≠ w.heap.size + 2; omega) _, ?_⟩⟩
            have := blk_put_ HY.out.2.2.2 (x + 5 * y) (xr z0 (an (Go.bits .xor .u64 IntKind.u64.max z1) z2))
            show Blk _ _ _ (chStep l (chTo l (5 * y + x)) (5 * y + x))
            unfold chStep
            rw [show (5 * y + x) % 5 = x by omega, show (5 * y + x) / 5 = y by omega, show 5 * y + x = x + 5 * y by omega, hz0, hz1, hz2]
            rw [show x + 5 * y = 5 * y + x by omega] at this ⊢
            exact this
end Go.Proofs.Ytmocccmffmacdaa.Kec
namespace Go.Proofs.Ytmocccmffmacdaa.Kec
open Go.RowKit Go.Proofs.YtmocccmffmacdaaW.PrintWords Go.Proofs.YtmocccmffmacdaaW.PrintLast Go.Proofs.YtmocccmffmacdaaW.PrintMore Go.Proofs.Ytmocccmffmacdaa.PRotateLeft64 Go.Proofs.Ytmocccmffmacdaa.ProundLane
set_option linter.unusedVariables false
set_option linter.unusedSimpArgs false

theorem sixtyfour (n : Int) (h0 : 0 ≤ n) (h1 : n < 64) : Go.bits .and .u64 (IntKind.u64.wrap n) 63 = n := by
  rw [Go.IntKind.wrap_u64, Int.emod_eq_of_lt h0 (by omega), Go.u64_and n 63 h0 (by omega) (by decide) (by decide), show (63 : Int).toNat = 63 from rfl, Go.nat_mask6]
  omega
/-- x turned left by n bits: what the library's function gives -/
theorem rl_f {x : Int} (hx : Rg x) (n : Nat) (h1 : n < 64) : bits_RotateLeft64.f x (n : Int) = some (rl x n) := by
  unfold bits_RotateLeft64.f
  rw [sixtyfour (n : Int) (by omega) (by omega), if_pos (by omega)]
  have e : IntKind.u64.wrap (64 - (n : Int)) = ((64 - n : Nat) : Int) := by rw [Go.IntKind.wrap_u64]; omega
  rw [e, if_pos (by omega)]
  congr 1
  have hl := rg_lt hx
  obtain ⟨y, rfl⟩ := Int.eq_ofNat_of_zero_le hx.1
  rw [Int.toNat_natCast] at hl
  unfold rl shl shr
  rw [Int.toNat_natCast, Int.toNat_natCast, Int.toNat_natCast, show IntKind.u64.bits = 64 from rfl, Nat.min_eq_left (by omega), Nat.min_eq_left (by omega), Go.IntKind.wrap_u64]
  have a1 : (y : Int) * 2 ^ n % 18446744073709551616 = ((y * 2 ^ n % 2 ^ 64 : Nat) : Int) := by
    rw [show ((2 : Nat) ^ 64) = 18446744073709551616 from rfl, Int.natCast_emod, Int.natCast_mul, Int.natCast_pow]
    rfl
  have a2 : (y : Int) / 2 ^ (64 - n) = ((y / 2 ^ (64 - n) : Nat) : Int) := by
    push_cast
    rfl
  rw [a1, a2, Go.u64_or_nat _ _ (Nat.mod_lt _ (by decide)) (Nat.lt_of_le_of_lt (Nat.div_le_self _ _) hl)]
def tcStep (l c : List Int) (i : Nat) : List Int := c.set (i % 5) (xr (c.getD (i % 5) 0) (g l i))
def tcTo (l : List Int) : Nat → List Int
  | 0 => [0, 0, 0, 0, 0]
  | i + 1 => tcStep l (tcTo l i) i
theorem tcTo_len (l : List Int) : ∀ i, (tcTo l i).length = 5
  | 0 => rfl
  | i + 1 => by simp [tcTo, tcStep, tcTo_len l i]
theorem rg_getD_set {c : List Int} (h : ∀ i, Rg (c.getD i 0)) {x : Int} (hx : Rg x) (k : Nat) : ∀ i, Rg ((c.set k x).getD i 0) := by
  intro i
  rw [List.getD_eq_getElem?_getD, List.getElem?_set]
  split
  · split
    · exact hx
    · exact rg_zero
  · rw [← List.getD_eq_getElem?_getD]; exact h i
theorem tcTo_rg {l : List Int} (h : Lanes l) : ∀ i k, Rg ((tcTo l i).getD k 0)
  | 0, k => by
    unfold tcTo
    match k with
    | 0 => exact rg_zero
    | 1 => exact rg_zero
    | 2 => exact rg_zero
    | 3 => exact rg_zero
    | 4 => exact rg_zero
    | k + 5 => exact rg_zero
  | i + 1, k => rg_getD_set (tcTo_rg h i) (xr_rg (tcTo_rg h i _) (g_rg h i)) _ k
def tgStep (c l : List Int) (i : Nat) : List Int := l.set i (xr (g l i) (xr (c.getD ((i % 5 + 4) % 5) 0) (rl (c.getD ((i % 5 + 1) % 5) 0) 1)))
def tgTo (c l : List Int) : Nat → List Int
  | 0 => l
  | i + 1 => tgStep c (tgTo c l i) i
theorem tgTo_len (c l : List Int) (h : l.length = 25) : ∀ i, (tgTo c l i).length = 25
  | 0 => h
  | i + 1 => by simp [tgTo, tgStep, tgTo_len c l h i]
/-- one round of the moving of lanes: where it stands, what it holds -/
structure RP where
  x : Nat
  y : Nat
  out : List Int
def rpStep (l : List Int) (p : RP) (t : Nat) : RP := ⟨p.y, (2 * p.x + 3 * p.y) % 5, p.out.set (p.y + 5 * ((2 * p.x + 3 * p.y) % 5)) (rl (g l (p.x + 5 * p.y)) ((t + 1) * (t + 2) / 2 % 64))⟩
def rpTo (l : List Int) : Nat → RP
  | 0 => ⟨1, 0, zero25.set 0 (g l 0)⟩
  | t + 1 => rpStep l (rpTo l t) t
theorem rpTo_ok (l : List Int) : ∀ t, (rpTo l t).x < 5 ∧ (rpTo l t).y < 5 ∧ (rpTo l t).out.length = 25
  | 0 => ⟨by show 1 < 5; decide, by show 0 < 5; decide, rfl⟩
  | t + 1 => by
    obtain ⟨h1, h2, h3⟩ := rpTo_ok l t
    exact ⟨h2, Nat.mod_lt _ (by decide), by show (List.set _ _ _).length = 25; rw [List.length_set]; exact h3⟩
set_option maxHeartbeats 4000000 in
set_option maxRecDepth 100000 in
theorem rhoPi_calls (l : List Int) (hL : Lanes l) (w : World) : Calls Try.prog 52 #[arr l] w fun e_ w' => e_ = .returned (arr (rpTo l 24).out) ∧ Below w.heap.size w w' := by
  have HLa := Aside0.mk hL
  obtain ⟨q0, hq0⟩ : ∃ z, g l 0 = z := ⟨_, rfl⟩
  have HW : Aside0 (∀ V, V = ((w.alloc (.cells (cells .u64 l) 49)).alloc (.cells (cells .u64 zero25) 49)).alloc (.cells (cells .u64 zero25) 49) → Below w.heap.size w V ∧ Blk V w.heap.size 49 l ∧ Blk V (w.heap.size + 1) 49 zero25 ∧ Blk V (w.heap.size + 1 + 1) 49 zero25) := ⟨by
    rintro V rfl
    refine ⟨(((Below.refl w.heap.size w).alloc (Nat.le_refl _) _).alloc (by rw [sz_alloc]; omega) _).alloc (by rw [sz_alloc, sz_alloc]; omega) _, blk_alloc (blk_alloc (blk_new _ _) _) _, ?_, ?_⟩
    · unfold Blk; rw [← sz_alloc w (.cells (cells .u64 l) 49)]; exact blk_alloc (heap_alloc_last _ _) _
    · unfold Blk; rw [show w.heap.size + 1 + 1 = ((w.alloc (.cells (cells .u64 l) 49)).alloc (.cells (cells .u64 zero25) 49)).heap.size by rw [sz_alloc, sz_alloc]]; exact heap_alloc_last _ _⟩
  have HQ := Aside0.mk hq0
  clear hL hq0
  have tok1 : True := trivial
  go_enter Try.func52, Try.ntmps52
  go_wp2_with ((with_reducible refine gate_dst (N := 11) rfl ?_); clear tok1; refine wpl_world (fun V hV => ?_); have HX := Aside0.mk (HW.out V hV); clear hV; have d0 : V.cell? ⟨w.heap.size, 0, none⟩ = some (.int .u64 q0) := (HQ.out ▸ blk_cell_ HX.out.2.1 0 (by rw [HLa.out.1]; decide)); have d1 := blk_cell_ HX.out.2.2.2 0 (by decide); have d2 := blk_froz HX.out.2.2.2 0)
  clear d0 d1 d2 HW
  go_loopg [4, 5, 13] 24 (fun k s4 s5 s13 wx => ∃ t x y : Nat, t + k = 24 ∧ s13 = .int .i64 t ∧ s4 = .int .i64 x ∧ s5 = .int .i64 y ∧ x < 5 ∧ y < 5 ∧ Aside0 ((rpTo l t).x = x ∧ (rpTo l t).y = y ∧ Below w.heap.size w wx ∧ Blk wx w.heap.size 49 l ∧ Blk wx (w.heap.size + 1) 49 zero25 ∧ Blk wx (w.heap.size + 1 + 1) 49 (rpTo l t).out))
  case atStart => exact ⟨0, 1, 0, by omega, rfl, rfl, rfl, by decide, by decide, ⟨rfl, rfl, HX.out.1.setCell (show w.heap.size ≤ w.heap.size + 1 + 1 by omega) _, blk_far HX.out.2.1 (by show _ ≠ w.heap.size + 1 + 1; omega) _, blk_far HX.out.2.2.1 (by show _ ≠ w.heap.size + 1 + 1; omega) _, by rw [← HQ.out]; exact blk_put_ HX.out.2.2.2 0 _⟩⟩
  case round =>
    obtain ⟨t, x, y, htk, rfl, rfl, rfl, hx5, hy5, HY⟩ := hrel
    cases gk with
    | zero =>
      obtain rfl : t = 24 := by omega
      clear htk
      have hi : ¬ ((24 : Int) < 24) := by decide
      have A1 := Aside0.mk HY.out.2.2.2.2.2
      have A0 := Aside0.mk HY.out.2.2.2.2.1
      have HL := Aside0.mk (rpTo_ok l 24).2.2
      go_wp2_with (first | ((with_reducible refine gate_dst (N := 46) rfl ?_); refine ld49 A1.out HL.out (.tmp 3) rfl rfl rfl ?_) | ((with_reducible refine gate_store (t := 49) (p := 2) rfl ?_); refine st49 A0.out rfl HL.out (.tmp 2) (.tmp 46) rfl rfl rfl rfl ?_))
      (try simp only [Exit.inBlock, Exit.then])
      exact bodyPost_ret (ret49 rfl _ _ (blk_row A0.out) HL.out rfl) rfl ⟨rfl, setRow_below HY.out.2.2.1 (by omega) _⟩
    | succ kk =>
      have hi : (t : Int) < 24 := by omega
      obtain ⟨M, hM⟩ : ∃ M, (t + 1) * (t + 2) = M := ⟨_, rfl⟩
      have hM9 : M ≤ 1000 := by
        have h1 : (t + 1) * (t + 2) ≤ 24 * 25 := Nat.mul_le_mul (by omega) (by omega)
        omega
      have hMb : (M : Int) ≤ 1000 := by omega
      have hM2 : ((t : Int) + 1) * ((t : Int) + 2) = (M : Int) := by rw [← hM]; push_cast; rfl
      have hmul : IntKind.i64.wrap (((t : Int) + 1) * ((t : Int) + 2)) = (M : Int) := by rw [hM2, IntKind.wrap_i64]; omega
      obtain ⟨n, hn⟩ : ∃ n, M / 2 % 64 = n := ⟨_, rfl⟩
      have hn2 : (M : Int) / 2 % 64 = (n : Int) := by omega
      have hn64 : n < 64 := by omega
      obtain ⟨z, hz⟩ : ∃ z, g l (x + 5 * y) = z := ⟨_, rfl⟩
      have hzr : Rg z := hz ▸ g_rg HLa.out _
      have HR : Aside0 (bits_RotateLeft64.f z (n : Int) = some (rl z n)) := ⟨rl_f hzr n hn64⟩
      have c0 : wr.cell? ⟨w.heap.size, x + 5 * y, none⟩ = some (.int .u64 z) := hz ▸ blk_cell_ HY.out.2.2.2.1 (x + 5 * y) (by have := HLa.out.1; omega)
      have c1 := blk_cell_ HY.out.2.2.2.2.2 (y + 5 * ((2 * x + 3 * y) % 5)) (by rw [(rpTo_ok l t).2.2]; omega)
      have f1 := blk_froz HY.out.2.2.2.2.2 (y + 5 * ((2 * x + 3 * y) % 5))
      have hx5' : (x : Int) < 5 := by omega
      have hy5' : (y : Int) < 5 := by omega
      have HI := Aside0.mk (And.intro htk (And.intro hM (And.intro hn (And.intro hz (And.intro hx5 hy5)))))
      clear htk hM hM9 hM2 hn hz hzr hx5 hy5 hn64
      go_wp2_with (go_at_call 57; (with_reducible refine (bits_RotateLeft64.calls _ _ _ _ HR.out).mono ?_); rintro e_ w1 ⟨rfl, ⟨nd, rfl⟩⟩)
      go_roundg kk
      case measure => omega
      case rel =>
        obtain ⟨htk, hM, hn, hz, hx5, hy5⟩ := HI.out
        refine ⟨t + 1, y, (2 * x + 3 * y) % 5, by omega, by go_num, rfl, by go_num, hy5, Nat.mod_lt _ (by decide), ⟨?_, ?_, (pw_below_drewN HY.out.2.2.1 _).setCell (show w.heap.size ≤ w.heap.size + 1 + 1 by omega) _, blk_far (blk_drewN HY.out.2.2.2.1 _) (by show _ ≠ w.heap.size + 1 + 1; omega) _, blk_far (blk_drewN HY.out.2.2.2.2.1 _) (by show _ ≠ w.heap.size + 1 + 1; omega) _, ?_⟩⟩
        · show (rpTo l t).y = y
          exact HY.out.2.1
        · show (2 * (rpTo l t).x + 3 * (rpTo l t).y) % 5 = _
          rw [HY.out.1, HY.out.2.1]
        · show Blk _ _ _ ((rpTo l t).out.set ((rpTo l t).y + 5 * ((2 * (rpTo l t).x + 3 * (rpTo l t).y) % 5)) (rl (g l ((rpTo l t).x + 5 * (rpTo l t).y)) ((t + 1) * (t + 2) / 2 % 64)))
          rw [HY.out.1, HY.out.2.1, hM, hn, hz]
          exact blk_put_ (blk_drewN HY.out.2.2.2.2.2 _) _ _
end Go.Proofs.Ytmocccmffmacdaa.Kec
namespace Go.Proofs.Ytmocccmffmacdaa.Kec
open Go.RowKit Go.Proofs.YtmocccmffmacdaaW.PrintWords Go.Proofs.YtmocccmffmacdaaW.PrintLast Go.Proofs.YtmocccmffmacdaaW.PrintMore Go.Proofs.Ytmocccmffmacdaa.PRotateLeft64 Go.Proofs.Ytmocccmffmacdaa.ProundLane
set_option linter.unusedVariables false
set_option linter.unusedSimpArgs false

theorem info47 : (Try.prog.info? 47).map (fun i => (i.zero, i.size, i.bytes)) = some (some (.int .u64 0), 1, 8) := by kernel_rfl
theorem index_arr (l : List Int) (hl : l.length = 25) (i : Nat) (hi : i < 25) (w : World) : (Instr.index 49 (arr l) (.int .i64 (i : Int))).run Try.prog w = .ok (.int .u64 (g l i)) w := by
  obtain ⟨i5, hi5, hs5⟩ : ∃ i, Try.prog.info? 47 = some i ∧ i.size = 1 := by
    have := info47
    cases hq : Try.prog.info? 47 with
    | none => rw [hq] at this; cases this
    | some i =>
      rw [hq] at this
      simp only [Option.map_some, Option.some.injEq, Prod.mk.injEq] at this
      exact ⟨i, rfl, this.2.1⟩
  have hg := cells_get l i (by omega)
  unfold Instr.index
  simp [asIntOf, run_underlying under49, sizeOf, typeInfo, hi5, hs5, hi]
  unfold part
  simp [isAgg, run_underlying Try.underlying47, hg]
  rfl
set_option maxHeartbeats 4000000 in
set_option maxRecDepth 100000 in
theorem theta_calls (l : List Int) (hL : Lanes l) (w : World) : Calls Try.prog 51 #[arr l] w fun e_ w' => e_ = .returned (arr (tgTo (tcTo l 25) l 25)) ∧ Below w.heap.size w w' := by
  have HLa := Aside0.mk hL
  have HW : Aside0 (∀ V, V = ((w.alloc (.cells (cells .u64 l) 49)).alloc (.cells (cells .u64 zero25) 49)).alloc (.cells (cells .u64 [0, 0, 0, 0, 0]) 74) → Below w.heap.size w V ∧ Blk V w.heap.size 49 l ∧ Blk V (w.heap.size + 1) 49 zero25 ∧ Blk V (w.heap.size + 1 + 1) 74 [0, 0, 0, 0, 0]) := ⟨by
    rintro V rfl
    refine ⟨(((Below.refl w.heap.size w).alloc (Nat.le_refl _) _).alloc (by rw [sz_alloc]; omega) _).alloc (by rw [sz_alloc, sz_alloc]; omega) _, blk_alloc (blk_alloc (blk_new _ _) _) _, ?_, ?_⟩
    · unfold Blk; rw [← sz_alloc w (.cells (cells .u64 l) 49)]; exact blk_alloc (heap_alloc_last _ _) _
    · unfold Blk; rw [show w.heap.size + 1 + 1 = ((w.alloc (.cells (cells .u64 l) 49)).alloc (.cells (cells .u64 zero25) 49)).heap.size by rw [sz_alloc, sz_alloc]]; exact heap_alloc_last _ _⟩
  clear hL
  have tok1 : True := trivial
  go_enter Try.func51, Try.ntmps51
  go_wp2_with ((with_reducible refine gate_dst (N := 8) rfl ?_); clear tok1; refine wpl_world (fun V hV => ?_); have HX := Aside0.mk (HW.out V hV); clear hV; refine ld49 HX.out.2.1 HLa.out.1 (.tmp 1) rfl rfl rfl ?_)
  clear HW
  go_loopg [9] 25 (fun k s9 wx => ∃ i : Nat, i + k = 25 ∧ s9 = .int .i64 i ∧ Aside0 (Below w.heap.size w wx ∧ Blk wx w.heap.size 49 l ∧ Blk wx (w.heap.size + 1) 49 zero25 ∧ Blk wx (w.heap.size + 1 + 1) 74 (tcTo l i)))
  case atStart => exact ⟨0, by omega, rfl, HX⟩
  case round =>
    obtain ⟨i, hik, rfl, HY⟩ := hrel
    clear HX
    cases gk with
    | zero =>
      obtain rfl : i = 25 := by omega
      clear hik
      have hi : ¬ ((25 : Int) < 25) := by decide
      go_wp2
      go_loopg [21] 25 (fun k s21 wx => ∃ i : Nat, i + k = 25 ∧ s21 = .int .i64 i ∧ Aside0 (Below w.heap.size w wx ∧ Blk wx w.heap.size 49 (tgTo (tcTo l 25) l i) ∧ Blk wx (w.heap.size + 1) 49 zero25 ∧ Blk wx (w.heap.size + 1 + 1) 74 (tcTo l 25)))
      case atStart => exact ⟨0, by omega, rfl, HY⟩
      case round =>
        obtain ⟨i, hik, rfl, HZ⟩ := hrel
        clear HY
        cases gk with
        | zero =>
          obtain rfl : i = 25 := by omega
          clear hik
          have A1 := Aside0.mk HZ.out.2.1
          have A0 := Aside0.mk HZ.out.2.2.1
          have HL := Aside0.mk (tgTo_len (tcTo l 25) l HLa.out.1 25)
          go_wp2_with (first | ((with_reducible refine gate_dst (N := 44) rfl ?_); refine ld49 A1.out HL.out (.tmp 1) rfl rfl rfl ?_) | ((with_reducible refine gate_store (t := 49) (p := 2) rfl ?_); refine st49 A0.out rfl HL.out (.tmp 2) (.tmp 44) rfl rfl rfl rfl ?_))
          (try simp only [Exit.inBlock, Exit.then])
          exact bodyPost_ret (ret49 rfl _ _ (blk_row A0.out) HL.out rfl) rfl ⟨rfl, setRow_below HZ.out.1 (by omega) _⟩
        | succ kk =>
          have hi : (i : Int) < 25 := by omega
          obtain ⟨z, hz⟩ : ∃ z, g (tgTo (tcTo l 25) l i) i = z := ⟨_, rfl⟩
          obtain ⟨x, hx⟩ : ∃ x, (tcTo l 25).getD ((i % 5 + 4) % 5) 0 = x := ⟨_, rfl⟩
          obtain ⟨y, hy⟩ : ∃ y, (tcTo l 25).getD ((i % 5 + 1) % 5) 0 = y := ⟨_, rfl⟩
          have hyr : Rg y := hy ▸ tcTo_rg HLa.out 25 _
          have HR : Aside0 (bits_RotateLeft64.f y 1 = some (rl y 1)) := ⟨rl_f hyr 1 (by decide)⟩
          have c0 : wr.cell? ⟨w.heap.size, i, none⟩ = some (.int .u64 z) := hz ▸ blk_cell_ HZ.out.2.1 i (by rw [tgTo_len _ _ HLa.out.1]; omega)
          have f0 := blk_froz HZ.out.2.1 i
          have c1 : wr.cell? ⟨w.heap.size + 1 + 1, (i % 5 + 4) % 5, none⟩ = some (.int .u64 x) := hx ▸ blk_cell_ HZ.out.2.2.2 ((i % 5 + 4) % 5) (by rw [tcTo_len]; omega)
          have c2 : wr.cell? ⟨w.heap.size + 1 + 1, (i % 5 + 1) % 5, none⟩ = some (.int .u64 y) := hy ▸ blk_cell_ HZ.out.2.2.2 ((i % 5 + 1) % 5) (by rw [tcTo_len]; omega)
          have HI := Aside0.mk (And.intro hik (And.intro hz (And.intro hx hy)))
          clear hik hz hx hy hyr
          go_wp2
          obtain ⟨j1, hj1⟩ : ∃ j, (i % 5 + 4) % 5 = j := ⟨_, rfl⟩
          obtain ⟨j2, hj2⟩ : ∃ j, (i % 5 + 1) % 5 = j := ⟨_, rfl⟩
          rw [hj1] at c1
          rw [hj2] at c2
          have e1 : (IntKind.i64.wrap ((i : Int) % 5 + 4)).tmod 5 = (j1 : Int) := by rw [show IntKind.i64.wrap ((i : Int) % 5 + 4) = (i : Int) % 5 + 4 by rw [IntKind.wrap_i64]; omega, Int.tmod_eq_emod_of_nonneg (by omega)]; omega
          have e2 : (IntKind.i64.wrap ((i : Int) % 5 + 1)).tmod 5 = (j2 : Int) := by rw [show IntKind.i64.wrap ((i : Int) % 5 + 1) = (i : Int) % 5 + 1 by rw [IntKind.wrap_i64]; omega, Int.tmod_eq_emod_of_nonneg (by omega)]; omega
          have k1 : (j1 : Int) < 5 := by omega
          have k2 : (j2 : Int) < 5 := by omega
          clear hj1 hj2

          go_region_law (first | (go_simp; go_at_call 57; refine (bits_RotateLeft64.calls _ _ _ _ HR.out).mono ?_; rintro e_ w1 ⟨rfl, ⟨nd, rfl⟩⟩))
          all_goals
            go_wp2
            go_roundg kk
            case measure => omega
            case rel =>
              obtain ⟨hik, hz, hx, hy⟩ := HI.out
              refine ⟨i + 1, by omega, by go_num, ⟨(pw_below_drewN HZ.out.1 _).setCell (Nat.le_refl _) _, ?_, blk_far (blk_drewN HZ.out.2.2.1 _) (by show _ ≠ w.heap.size; omega) _, blk_far (blk_drewN HZ.out.2.2.2 _) (by show _ ≠ w.heap.size; omega) _⟩⟩
              show Blk _ _ _ ((tgTo (tcTo l 25) l i).set i (xr (g (tgTo (tcTo l 25) l i) i) (xr ((tcTo l 25).getD ((i % 5 + 4) % 5) 0) (rl ((tcTo l 25).getD ((i % 5 + 1) % 5) 0) 1))))
              rw [hz, hx, hy]
              exact blk_put_ (blk_drewN HZ.out.2.1 _) _ _
    | succ kk =>
      have hi : (i : Int) < 25 := by omega
      have HI := Aside0.mk hik
      obtain ⟨z, hz⟩ : ∃ z, g l i = z := ⟨_, rfl⟩
      have hidx : ∀ w : World, (Instr.index 49 (arr l) (.int .i64 (i : Int))).run Try.prog w = .ok (.int .u64 z) w := fun w => hz ▸ index_arr l HLa.out.1 i (by omega) w
      obtain ⟨x, hx⟩ : ∃ x, (tcTo l i).getD (i % 5) 0 = x := ⟨_, rfl⟩
      have c0 : wr.cell? ⟨w.heap.size + 1 + 1, i % 5, none⟩ = some (.int .u64 x) := hx ▸ blk_cell_ HY.out.2.2.2 (i % 5) (by rw [tcTo_len]; omega)
      have f0 := blk_froz HY.out.2.2.2 (i % 5)
      have HI := Aside0.mk (And.intro hik (And.intro hz hx))
      clear hik hz hx
      go_wp2
      go_roundg kk
      case measure => omega
      case rel =>
        obtain ⟨hik, hz, hx⟩ := HI.out
        refine ⟨i + 1, by omega, by go_num, ⟨HY.out.1.setCell (show w.heap.size ≤ w.heap.size + 1 + 1 by omega) _, blk_far HY.out.2.1 (by show _ ≠ w.heap.size + 1 + 1; omega) _, blk_far HY.out.2.2.1 (by show _ ≠ w.heap.size + 1 + 1; omega) _, ?_⟩⟩
        show Blk _ _ _ ((tcTo l i).set (i % 5) (xr ((tcTo l i).getD (i % 5) 0) (g l i)))
        rw [hx, hz]
        exact blk_put_ HY.out.2.2.2 _ _
end Go.Proofs.Ytmocccmffmacdaa.Kec
namespace Go.Proofs.Ytmocccmffmacdaa.Kec
open Go.RowKit Go.Proofs.YtmocccmffmacdaaW.PrintWords Go.Proofs.YtmocccmffmacdaaW.PrintLast Go.Proofs.YtmocccmffmacdaaW.PrintMore Go.Proofs.Ytmocccmffmacdaa.PRotateLeft64 Go.Proofs.Ytmocccmffmacdaa.ProundLane
set_option linter.unusedVariables false
set_option linter.unusedSimpArgs false

theorem list25 (l : List Int) (h : l.length = 25) : ∃ a0 a1 a2 a3 a4 a5 a6 a7 a8 a9 b0 b1 b2 b3 b4 b5 b6 b7 b8 b9 c0 c1 c2 c3 c4, l = [a0, a1, a2, a3, a4, a5, a6, a7, a8, a9, b0, b1, b2, b3, b4, b5, b6, b7, b8, b9, c0, c1, c2, c3, c4] := by
  match l, h with
  | [a0, a1, a2, a3, a4, a5, a6, a7, a8, a9, b0, b1, b2, b3, b4, b5, b6, b7, b8, b9, c0, c1, c2, c3, c4], _ => exact ⟨a0, a1, a2, a3, a4, a5, a6, a7, a8, a9, b0, b1, b2, b3, b4, b5, b6, b7, b8, b9, c0, c1, c2, c3, c4, rfl⟩
set_option maxHeartbeats 4000000 in
theorem rho_eq (l : List Int) (h : Lanes l) : (rpTo l 24).out = rhoL l := by
  have h0 : rl (g l 0) 0 = g l 0 := by
    have hr := g_rg h 0
    have := rg_lt hr
    unfold rl
    rw [Nat.pow_zero, Nat.mul_one, Nat.mod_eq_of_lt this, Nat.sub_zero, Nat.div_eq_of_lt this, Nat.or_zero]
    unfold Rg at hr
    omega
  have e : (rpTo l 24).out = (rhoL l).set 0 (g l 0) := by
    unfold rhoL row25 srcT amtT
    simp [rpTo, rpStep, zero25, List.range, List.range.loop]
  rw [e]
  apply List.ext_getElem (by rw [List.length_set])
  intro i h1 h2
  rw [List.getElem_set]
  split
  · next hi =>
    subst hi
    have : (rhoL l).getD 0 0 = rl (g l 0) 0 := row25_get _ 0 (by decide)
    rw [List.getD_eq_getElem?_getD, List.getElem?_eq_getElem h2, Option.getD_some, h0] at this
    exact this.symm
  · rfl
theorem nt_eq {x : Int} (h : Rg x) : Go.bits .xor .u64 IntKind.u64.max x = nt x := by
  have e : IntKind.u64.max = 18446744073709551615 := by decide +kernel
  rw [e]
  refine tb_ext (xr_rg (by unfold Rg; decide) h) (nt_rg h) fun z hz => ?_
  have := tb_xr (x := 18446744073709551615) (by unfold Rg; decide) h z
  rw [show Go.bits .xor .u64 18446744073709551615 x = xr 18446744073709551615 x from rfl, this, tb_nt h z hz]
  have e2 : tb 18446744073709551615 z = true := by
    unfold tb
    rw [show (18446744073709551615 : Int).toNat = 2 ^ 64 - 1 by decide, Nat.testBit_two_pow_sub_one]
    simp [hz]
  rw [e2]
  cases tb x z <;> rfl
theorem list_ext25 {a b : List Int} (ha : a.length = 25) (hb : b.length = 25) (h : ∀ i, i < 25 → g a i = g b i) : a = b := by
  apply List.ext_getElem (ha.trans hb.symm)
  intro i h1 h2
  have e := h i (by omega)
  unfold g at e
  rw [List.getD_eq_getElem?_getD, List.getD_eq_getElem?_getD, List.getElem?_eq_getElem h1, List.getElem?_eq_getElem h2] at e
  exact e
def chF (l : List Int) (i : Nat) : Int := xr (g l i) (an (Go.bits .xor .u64 IntKind.u64.max (g l ((i % 5 + 1) % 5 + 5 * (i / 5)))) (g l ((i % 5 + 2) % 5 + 5 * (i / 5))))
theorem chTo_at (l : List Int) : ∀ n i, n ≤ 25 → i < 25 → i < n → g (chTo l n) i = chF l i
  | 0, i, _, _, h => by omega
  | n + 1, i, hn, hi, hin => by
    show g ((chTo l n).set n (chF l n)) i = _
    have hlen := chTo_len l n
    unfold g
    rw [List.getD_eq_getElem?_getD, List.getElem?_set]
    by_cases h : n = i
    · subst h
      rw [if_pos rfl, if_pos (by omega)]
      rfl
    · rw [if_neg h, ← List.getD_eq_getElem?_getD]
      exact chTo_at l n i (by omega) hi (by omega)
theorem chi_eq (l : List Int) (h : Lanes l) : chTo l 25 = chiL l := by
  refine list_ext25 (chTo_len l 25) (row25_len _) fun i hi => ?_
  rw [chTo_at l 25 i (Nat.le_refl _) hi hi]
  unfold chF
  rw [nt_eq (g_rg h _)]
  show _ = (chiL l).getD i 0
  unfold chiL
  rw [row25_get _ i hi]
set_option maxHeartbeats 4000000 in
theorem tc_eq (l : List Int) (h : Lanes l) : tcTo l 25 = [col l 0, col l 1, col l 2, col l 3, col l 4] := by
  have e : tcTo l 25 = [xr (xr (xr (xr (xr 0 (g l 0)) (g l 5)) (g l 10)) (g l 15)) (g l 20), xr (xr (xr (xr (xr 0 (g l 1)) (g l 6)) (g l 11)) (g l 16)) (g l 21), xr (xr (xr (xr (xr 0 (g l 2)) (g l 7)) (g l 12)) (g l 17)) (g l 22), xr (xr (xr (xr (xr 0 (g l 3)) (g l 8)) (g l 13)) (g l 18)) (g l 23), xr (xr (xr (xr (xr 0 (g l 4)) (g l 9)) (g l 14)) (g l 19)) (g l 24)] := by
    simp [tcTo, tcStep]
  rw [e]
  simp only [xr_zero (g_rg h _)]
  rfl
theorem tgTo_at (c l : List Int) (hl : l.length = 25) : ∀ n i, n ≤ 25 → i < 25 → g (tgTo c l n) i = if i < n then xr (g l i) (xr (c.getD ((i % 5 + 4) % 5) 0) (rl (c.getD ((i % 5 + 1) % 5) 0) 1)) else g l i
  | 0, i, _, _ => by rw [if_neg (by omega)]; rfl
  | n + 1, i, hn, hi => by
    show g ((tgTo c l n).set n _) i = _
    have hlen := tgTo_len c l hl n
    unfold g
    rw [List.getD_eq_getElem?_getD, List.getElem?_set]
    by_cases h : n = i
    · subst h
      rw [if_pos rfl, if_pos (by omega), if_pos (by omega)]
      have := tgTo_at c l hl n n (by omega) hi
      rw [if_neg (by omega)] at this
      have this' : (tgTo c l n).getD n 0 = l.getD n 0 := this
      rw [Option.getD_some]
      show xr ((tgTo c l n).getD n 0) _ = _
      rw [this']
    · rw [if_neg h, ← List.getD_eq_getElem?_getD]
      have := tgTo_at c l hl n i (by omega) hi
      unfold g at this
      rw [this]
      by_cases h2 : i < n
      · rw [if_pos h2, if_pos (by omega)]
      · rw [if_neg h2, if_neg (by omega)]
theorem col_get (l : List Int) : ∀ x, x < 5 → [col l 0, col l 1, col l 2, col l 3, col l 4].getD x 0 = col l x := by
  intro x hx
  match x, hx with
  | 0, _ => rfl
  | 1, _ => rfl
  | 2, _ => rfl
  | 3, _ => rfl
  | 4, _ => rfl
theorem theta_eq (l : List Int) (h : Lanes l) : tgTo (tcTo l 25) l 25 = thetaL l := by
  refine list_ext25 (tgTo_len _ _ h.1 25) (theta_lanes h).1 fun i hi => ?_
  rw [tgTo_at _ _ h.1 25 i (Nat.le_refl _) hi, if_pos hi, tc_eq l h, col_get l _ (Nat.mod_lt _ (by decide)), col_get l _ (Nat.mod_lt _ (by decide))]
  show _ = (thetaL l).getD i 0
  unfold thetaL
  rw [row25_get _ i hi]
theorem lane_f : ∀ t : Nat, t < 24 → impl_roundLane.f 200 (t : Int) = some (rcs.getD t 0) := by
  have : ∀ t : Nat, t < 24 → (impl_roundLane.f 200 (t : Int) == some (rcs.getD t 0)) = true := by decide +kernel
  intro t ht
  exact eq_of_beq (this t ht)
theorem kc_round (l : List Int) (h : Lanes l) (t : Nat) (ht : t < 24) : (chTo (rpTo (tgTo (tcTo l 25) l 25) 24).out 25).set 0 (xr (g (chTo (rpTo (tgTo (tcTo l 25) l 25) 24).out 25) 0) (rcs.getD t 0)) = rdL (rcs.getD t 0) l := by
  rw [theta_eq l h, rho_eq _ (theta_lanes h), chi_eq _ (rho_lanes (theta_lanes h))]
  rfl
set_option maxHeartbeats 4000000 in
set_option maxRecDepth 100000 in
theorem permuted_calls (l : List Int) (hL : Lanes l) (w : World) : Calls Try.prog 33 #[arr l] w fun e_ w' => e_ = .returned (arr (kcTo l 24)) ∧ Below w.heap.size w w' := by
  have HLa := Aside0.mk hL
  have HW : Aside0 (∀ V, V = (w.alloc (.cells (cells .u64 l) 49)).alloc (.cells (cells .u64 zero25) 49) → Below w.heap.size w V ∧ Blk V w.heap.size 49 l ∧ Blk V (w.heap.size + 1) 49 zero25) := ⟨by
    rintro V rfl
    refine ⟨((Below.refl w.heap.size w).alloc (Nat.le_refl _) _).alloc (by rw [sz_alloc]; omega) _, blk_alloc (blk_new _ _) _, ?_⟩
    unfold Blk; rw [← sz_alloc w (.cells (cells .u64 l) 49)]; exact heap_alloc_last _ _⟩
  clear hL
  go_enter Try.func33, Try.ntmps33
  go_wp2
  go_loopg [4] 24 (fun k s4 wx => ∃ t : Nat, t + k = 24 ∧ s4 = .int .i64 t ∧ Aside0 (Below w.heap.size w wx ∧ Blk wx w.heap.size 49 (kcTo l t) ∧ Blk wx (w.heap.size + 1) 49 zero25))
  case atStart => exact ⟨0, by omega, rfl, ⟨HW.out _ rfl⟩⟩
  case round =>
    obtain ⟨t, htk, rfl, HY⟩ := hrel
    clear HW
    have HK := Aside0.mk (kcTo_lanes HLa.out t)
    cases gk with
    | zero =>
      obtain rfl : t = 24 := by omega
      clear htk
      have hi : ¬ ((24 : Int) < 24) := by decide
      have A1 := Aside0.mk HY.out.2.1
      have A0 := Aside0.mk HY.out.2.2
      go_wp2_with (first | ((with_reducible refine gate_dst (N := 18) rfl ?_); refine ld49 A1.out HK.out.1 (.tmp 1) rfl rfl rfl ?_) | ((with_reducible refine gate_store (t := 49) (p := 2) rfl ?_); refine st49 A0.out rfl HK.out.1 (.tmp 2) (.tmp 18) rfl rfl rfl rfl ?_))
      (try simp only [Exit.inBlock, Exit.then])
      exact bodyPost_ret (ret49 rfl _ _ (blk_row A0.out) HK.out.1 rfl) rfl ⟨rfl, setRow_below HY.out.1 (by omega) _⟩
    | succ kk =>
      have hi : (t : Int) < 24 := by omega
      have HR : Aside0 (impl_roundLane.f 200 (t : Int) = some (rcs.getD t 0)) := ⟨lane_f t (by omega)⟩
      have HE := Aside0.mk (kc_round (kcTo l t) HK.out t (by omega))
      have HTh := Aside0.mk (theta_eq (kcTo l t) HK.out)
      have HRh := Aside0.mk (rho_eq _ (theta_lanes HK.out))
      obtain ⟨rc, hrc⟩ : ∃ z, rcs.getD t 0 = z := ⟨_, rfl⟩
      have HI := Aside0.mk (And.intro htk hrc)
      rw [hrc] at HR HE
      clear htk hrc
      have HS : Aside0 (w.heap.size + 2 ≤ wr.heap.size) := ⟨by have := blk_lt HY.out.2.2; omega⟩
      go_wp2_with (first
        | ((with_reducible refine gate_dst (N := 7) rfl ?_); refine ld49 HY.out.2.1 HK.out.1 (.tmp 1) rfl rfl rfl ?_)
        | (go_at_call 51; refine (theta_calls (kcTo l t) HK.out _).mono ?_; rintro e_ w1 ⟨rfl, hb1⟩; have HB1 := Aside0.mk hb1; clear hb1)
        | (go_at_call 52; refine (rhoPi_calls _ (by rw [HTh.out]; exact theta_lanes HK.out) _).mono ?_; rintro e_ w2 ⟨rfl, hb2⟩; have HB2 := Aside0.mk (HB1.out.trans (hb2.mono HB1.out.size)); clear hb2)
        | (go_at_call 53; refine (chi_calls _ (rpTo_ok _ 24).2.2 _).mono ?_; rintro e_ w3 ⟨rfl, hb3⟩; have HB3 := Aside0.mk (HB2.out.trans (hb3.mono HB2.out.size)); clear hb3)
        | ((with_reducible refine gate_store (t := 49) (p := 1) rfl ?_); refine st49 (blk_below HY.out.2.1 HB3.out) HK.out.1 (chTo_len _ 25) (.tmp 1) (.tmp 10) rfl rfl rfl rfl ?_))
      refine wp_world (fun V hV => ?_)
      have HV : Aside0 (Below w.heap.size w V ∧ Blk V w.heap.size 49 (chTo (rpTo (tgTo (tcTo (kcTo l t) 25) (kcTo l t) 25) 24).out 25) ∧ Blk V (w.heap.size + 1) 49 zero25) := ⟨by
        rw [hV]
        exact ⟨setRow_below (HY.out.1.trans (HB3.out.mono HY.out.1.size)) (Nat.le_refl _) _, blk_row (blk_below HY.out.2.1 HB3.out), blk_row_far (blk_below HY.out.2.2 HB3.out) (by omega) _⟩⟩
      clear hV HB1 HB2 HB3 HS
      obtain ⟨q0, hq0⟩ : ∃ z, g (chTo (rpTo (tgTo (tcTo (kcTo l t) 25) (kcTo l t) 25) 24).out 25) 0 = z := ⟨_, rfl⟩
      have c0 : V.cell? ⟨w.heap.size, 0, none⟩ = some (.int .u64 q0) := hq0 ▸ blk_cell_ HV.out.2.1 0 (by rw [chTo_len]; decide)
      have f0 := blk_froz HV.out.2.1 0
      have HQ := Aside0.mk hq0
      clear hq0
      go_region_law (first | (go_simp; go_at_call 54; refine (impl_roundLane.calls 200 _ _ _ HR.out).mono ?_; rintro e_ w1 ⟨rfl, ⟨nd, rfl⟩⟩))
      all_goals
        go_wp2
        go_roundg kk
        case measure => omega
        case rel =>
          obtain ⟨htk, hrc⟩ := HI.out
          refine ⟨t + 1, by omega, by go_num, ⟨(pw_below_drewN HV.out.1 _).setCell (Nat.le_refl _) _, ?_, blk_far (blk_drewN HV.out.2.2 _) (by show _ ≠ w.heap.size; omega) _⟩⟩
          show Blk _ _ _ (rdL (rcs.getD t 0) (kcTo l t))
          rw [hrc, ← HE.out, HQ.out]
          exact blk_put_ (blk_drewN HV.out.2.1 _) _ _
end Go.Proofs.Ytmocccmffmacdaa.Kec
namespace Go.Proofs.Ytmocccmffmacdaa.Kec
open Go.RowKit Go.Proofs.YtmocccmffmacdaaW.PrintWords Go.Proofs.YtmocccmffmacdaaW.PrintLast Go.Proofs.YtmocccmffmacdaaW.PrintMore Go.Proofs.Ytmocccmffmacdaa.PRotateLeft64 Go.Proofs.Ytmocccmffmacdaa.ProundLane
set_option linter.unusedVariables false
set_option linter.unusedSimpArgs false

theorem laTo_rg (s : ByteArray) : ∀ i k, Rg ((laTo s i).getD k 0)
  | 0, k => by
    unfold laTo
    by_cases h : k < 25
    · have : ∀ k, k < 25 → 0 ≤ zero25.getD k 0 ∧ zero25.getD k 0 < 18446744073709551616 := by decide
      exact this k h
    · rw [List.getD_eq_getElem?_getD, List.getElem?_eq_none (by show 25 ≤ k; omega)]; exact rg_zero
  | i + 1, k => by
    show Rg ((List.set _ _ _).getD k 0)
    refine rg_getD_set (laTo_rg s i) ?_ _ k
    have h1 := laTo_rg s i (i / 8)
    have h2 : Rg (IntKind.u64.wrap (bt s i * 2 ^ (8 * (i % 8)))) := by rw [Go.IntKind.wrap_u64]; unfold Rg; omega
    rw [Go.u64_or _ _ h1.1 h1.2 h2.1 h2.2]
    exact rg_nat (Nat.or_lt_two_pow (rg_lt h1) (rg_lt h2))
theorem laOf_lanes (s : ByteArray) : Lanes (laOf s) := ⟨laTo_len s 200, fun i => laTo_rg s 200 i⟩
/-- The permuted text. -/
def perm (s : ByteArray) : ByteArray := if s.size = 200 then strOfNums (txTo (kcTo (laOf s) 24) 200) else s
set_option maxHeartbeats 4000000 in
set_option maxRecDepth 100000 in
theorem permute_calls (s : ByteArray) (hs : s.size ≤ 9223372036854775807) (w : World) : Calls Try.prog 12 #[.string s] w fun e_ w' => e_ = .returned (.string (perm s)) ∧ Below w.heap.size w w' := by
  have HB := Aside0.mk (Below.refl w.heap.size w)
  have HP := Aside0.mk (show (if s.size = 200 then strOfNums (txTo (kcTo (laOf s) 24) 200) else s) = perm s from rfl)
  by_cases h : s.size = 200
  · have h1 : ((s.size : Int) != 200) = false := by rw [h]; rfl
    have H2 := Aside0.mk h
    clear h
    go_enter Try.func12, Try.ntmps12
    go_wp2_with (first
      | (go_at_call 34; refine (lanesOf_calls s (by rw [H2.out]; exact Nat.le_refl _) _).mono ?_; rintro e_ w1 ⟨rfl, hb1⟩; have HB1 := Aside0.mk hb1; clear hb1)
      | (go_at_call 33; refine (permuted_calls (laOf s) (laOf_lanes s) _).mono ?_; rintro e_ w2 ⟨rfl, hb2⟩; have HB2 := Aside0.mk (HB1.out.trans (hb2.mono HB1.out.size)); clear hb2)
      | (go_at_call 35; refine (text_calls _ (kcTo_lanes (laOf_lanes s) 24).1 _).mono ?_; rintro e_ w3 ⟨rfl, hb3⟩; have HB3 := Aside0.mk (HB2.out.trans (hb3.mono HB2.out.size)); clear hb3))
    go_ret
    exact ⟨by rw [← HP.out, if_pos H2.out]; rfl, HB3.out⟩
  · have h1 : ((s.size : Int) != 200) = true := by rw [bne_iff_ne]; omega
    have H2 := Aside0.mk h
    clear h
    go_enter Try.func12, Try.ntmps12
    go_wp2
    go_ret
    exact ⟨by rw [← HP.out, if_neg H2.out]; rfl, HB.out⟩
/-- bytes that are numbers -/
def bys (s : ByteArray) : List Int := s.data.toList.map fun b => (b.toNat : Int)
theorem bys_len (s : ByteArray) : (bys s).length = s.size := by unfold bys; rw [List.length_map, Array.length_toList]; rfl
/-- the lane of eight bytes -/
def ln (s : ByteArray) (i : Nat) : Int := bt s (8 * i : Nat) + 256 * (bt s (8 * i + 1 : Nat) + 256 * (bt s (8 * i + 2 : Nat) + 256 * (bt s (8 * i + 3 : Nat) + 256 * (bt s (8 * i + 4 : Nat) + 256 * (bt s (8 * i + 5 : Nat) + 256 * (bt s (8 * i + 6 : Nat) + 256 * bt s (8 * i + 7 : Nat)))))))
theorem or_add (x b k : Nat) (hx : x < 2 ^ k) (hb : b < 256) (hk : k ≤ 56) : Go.bits .or .u64 (x : Int) (IntKind.u64.wrap ((b : Int) * 2 ^ k)) = ((x + b * 2 ^ k : Nat) : Int) := by
  have h1 : b * 2 ^ k < 2 ^ 64 := by
    have : b * 2 ^ k < 256 * 2 ^ k := Nat.mul_lt_mul_of_pos_right hb (Nat.two_pow_pos k)
    have h2 : 2 ^ k ≤ 2 ^ 56 := Nat.pow_le_pow_right (by decide) hk
    omega
  have h2 : x < 2 ^ 64 := Nat.lt_of_lt_of_le hx (Nat.pow_le_pow_right (by decide) (by omega))
  have e : IntKind.u64.wrap ((b : Int) * 2 ^ k) = ((b * 2 ^ k : Nat) : Int) := by
    rw [Go.IntKind.wrap_u64, show ((b : Int) * 2 ^ k) = ((b * 2 ^ k : Nat) : Int) by push_cast; rfl]
    omega
  rw [e, Go.u64_or_nat _ _ h2 h1]
  congr 1
  rw [Nat.or_comm, Nat.mul_comm, ← Nat.two_pow_add_eq_or_of_lt hx]
  omega
end Go.Proofs.Ytmocccmffmacdaa.Kec
namespace Go.Proofs.Ytmocccmffmacdaa.Kec
open Go.RowKit Go.Proofs.YtmocccmffmacdaaW.PrintWords Go.Proofs.YtmocccmffmacdaaW.PrintLast Go.Proofs.YtmocccmffmacdaaW.PrintMore Go.Proofs.Ytmocccmffmacdaa.PRotateLeft64 Go.Proofs.Ytmocccmffmacdaa.ProundLane
set_option linter.unusedVariables false
set_option linter.unusedSimpArgs false

def bn (s : ByteArray) (i : Nat) : Nat := (bt s (i : Int)).toNat
theorem bn_eq (s : ByteArray) (i : Nat) : bt s (i : Int) = (bn s i : Int) := by
  have := bt_range s (i : Int)
  unfold bn
  omega
theorem bn_lt (s : ByteArray) (i : Nat) : bn s i < 256 := by
  have := bt_range s (i : Int)
  unfold bn
  omega
/-- the first k bytes of lane j -/
def pl (s : ByteArray) (j : Nat) : Nat → Nat
  | 0 => 0
  | k + 1 => pl s j k + bn s (8 * j + k) * 2 ^ (8 * k)
theorem pl_lt (s : ByteArray) (j : Nat) : ∀ k, pl s j k < 2 ^ (8 * k)
  | 0 => by show 0 < 1; decide
  | k + 1 => by
    have h := pl_lt s j k
    have hb := bn_lt s (8 * j + k)
    show pl s j k + bn s (8 * j + k) * 2 ^ (8 * k) < 2 ^ (8 * (k + 1))
    rw [show 8 * (k + 1) = 8 * k + 8 by omega, Nat.pow_add]
    have : bn s (8 * j + k) * 2 ^ (8 * k) ≤ 255 * 2 ^ (8 * k) := Nat.mul_le_mul_right _ (by omega)
    omega
theorem laTo_at (s : ByteArray) : ∀ n j, n ≤ 200 → j < 25 → g (laTo s n) j = (pl s j (min 8 (n - 8 * j)) : Int)
  | 0, j, _, hj => by
    rw [show min 8 (0 - 8 * j) = 0 by omega]
    have : ∀ k, k < 25 → zero25.getD k 0 = 0 := by decide
    exact this j hj
  | n + 1, j, hn, hj => by
    have hlen := laTo_len s n
    show (List.set _ _ _).getD j 0 = _
    rw [List.getD_eq_getElem?_getD, List.getElem?_set]
    by_cases h : n / 8 = j
    · rw [if_pos h, if_pos (by omega), Option.getD_some, h]
      have ih := laTo_at s n j (by omega) hj
      rw [show min 8 (n - 8 * j) = n % 8 by omega] at ih
      have ih' : (laTo s n).getD j 0 = (pl s j (n % 8) : Int) := ih
      rw [ih', show min 8 (n + 1 - 8 * j) = n % 8 + 1 by omega, bn_eq s n, or_add _ _ _ (pl_lt s j (n % 8)) (bn_lt s n) (by omega)]
      show _ = ((pl s j (n % 8) + bn s (8 * j + n % 8) * 2 ^ (8 * (n % 8)) : Nat) : Int)
      rw [show 8 * j + n % 8 = n by omega]
    · rw [if_neg h, ← List.getD_eq_getElem?_getD]
      have ih := laTo_at s n j (by omega) hj
      have ih' : (laTo s n).getD j 0 = _ := ih
      rw [ih', show min 8 (n + 1 - 8 * j) = min 8 (n - 8 * j) by omega]
theorem ln_pl (s : ByteArray) (j : Nat) : ln s j = (pl s j 8 : Int) := by
  unfold ln
  simp only [bn_eq, pl]
  simp only [Nat.mul_zero, Nat.add_zero, Nat.pow_zero, Nat.mul_one, Nat.zero_add, Nat.reduceMul, Nat.reducePow]
  omega
/-- The lanes of a text of eight times m bytes. -/
def lns (s : ByteArray) (m : Nat) : List Int := (List.range m).map (ln s)
theorem lns_len (s : ByteArray) (m : Nat) : (lns s m).length = m := by unfold lns; rw [List.length_map, List.length_range]
theorem lns_get (s : ByteArray) (m i : Nat) (h : i < m) : (lns s m).getD i 0 = ln s i := by
  unfold lns
  rw [List.getD_eq_getElem?_getD, List.getElem?_map, List.getElem?_range h]
  rfl
theorem laOf_eq (s : ByteArray) : laOf s = lns s 25 := by
  refine list_ext25 (laTo_len s 200) (lns_len s 25) fun i hi => ?_
  have h := laTo_at s 200 i (Nat.le_refl _) hi
  rw [show min 8 (200 - 8 * i) = 8 by omega, ← ln_pl] at h
  exact h.trans (lns_get s 25 i hi).symm
def byteAt (l : List Int) (k : Nat) : Int := g l (k / 8) / 2 ^ (8 * (k % 8)) % 256
theorem txTo_at (l : List Int) : ∀ n i, n ≤ 200 → i < n → (txTo l n).getD i 0 = byteAt l i
  | 0, i, _, h => by omega
  | n + 1, i, hn, hi => by
    have hlen := txTo_len l n
    show (List.set _ _ _).getD i 0 = _
    rw [List.getD_eq_getElem?_getD, List.getElem?_set]
    by_cases h : n = i
    · subst h
      rw [if_pos rfl, if_pos (by omega)]
      rfl
    · rw [if_neg h, ← List.getD_eq_getElem?_getD]
      exact txTo_at l n i (by omega) (by omega)
def lbytes (l : List Int) (m : Nat) : List Int := (List.range m).map (byteAt l)
theorem lbytes_len (l : List Int) (m : Nat) : (lbytes l m).length = m := by unfold lbytes; rw [List.length_map, List.length_range]
theorem lbytes_snoc (l : List Int) (m : Nat) : lbytes l m ++ [byteAt l m] = lbytes l (m + 1) := by
  unfold lbytes
  rw [List.range_succ, List.map_append]
  rfl
theorem txTo_eq (l : List Int) : txTo l 200 = lbytes l 200 := by
  apply List.ext_getElem ((txTo_len l 200).trans (lbytes_len l 200).symm)
  intro i h1 h2
  have hi : i < 200 := by rw [txTo_len] at h1; exact h1
  have e := txTo_at l 200 i (Nat.le_refl _) hi
  rw [List.getD_eq_getElem?_getD, List.getElem?_eq_getElem h1, Option.getD_some] at e
  rw [e]
  simp [lbytes]
/-- The state's bytes. -/
def stx (l : List Int) : ByteArray := strOfNums (lbytes l 200)
theorem stx_size (l : List Int) : (stx l).size = 200 := by unfold stx; rw [strOfNums_size, lbytes_len]
theorem perm_eq (s : ByteArray) (h : s.size = 200) : perm s = stx (kcTo (lns s 25) 24) := by
  unfold perm stx
  rw [if_pos h, txTo_eq, laOf_eq]
theorem perm_size (s : ByteArray) : (perm s).size = s.size := by
  by_cases h : s.size = 200
  · rw [perm_eq s h, stx_size, h]
  · unfold perm; rw [if_neg h]
theorem lns_lanes (s : ByteArray) : Lanes (lns s 25) := laOf_eq s ▸ laOf_lanes s
end Go.Proofs.Ytmocccmffmacdaa.Kec
