/- A block by the document and a block by the program: one state. -/
import Derived.Test.YtlddohppkcndjaaDoorShaP
import Derived.Test.YtlddohppkcndjaaDoorPHashMorex1
namespace Go.Proofs.YtlddohppkcndjaaDoor.Sha
open Go.RowKit Go.Proofs.YtlddohppkcndjaaDoorW.PrintWords Go.Proofs.YtlddohppkcndjaaDoorW.PrintLast Go.Proofs.YtlddohppkcndjaaDoorW.PrintMore Go.Proofs.YtlddohppkcndjaaDoor.Pending Go.Proofs.YtlddohppkcndjaaDoor.Pright Go.Proofs.YtlddohppkcndjaaDoor.PHashMore
set_option linter.unusedVariables false
set_option linter.unusedSimpArgs false

theorem spec_right (x : Int) (hx : w32 x) (n : Nat) (a b : Int) (h0 : 0 < n) (h1 : n < 32) (ha : a = 2 ^ n) (hb : b = 2 ^ (32 - n)) : spec_l05Right.f x a b = some (rotr x n) := by
  have r := rotr_range x n hx h0 h1
  have hp : (0 : Int) < 2 ^ n := by have := Nat.two_pow_pos n; exact_mod_cast this
  unfold spec_l05Right.f
  rw [if_neg (by omega), Int.tdiv_eq_ediv_of_nonneg hx.1, Int.tmod_eq_emod_of_nonneg hx.1, ← Int.add_emod, ha, hb]
  show some (rotr x n % 4294967296) = _
  rw [Int.emod_eq_of_lt r.1 r.2]
theorem S1 (x : Int) (hx : w32 x) : spec_l05S.f x 131072 524288 1024 true = some (sg1 x) := by
  unfold spec_l05S.f sg1
  rw [if_neg (by decide), show (Int.tdiv 2147483648 131072 % 4294967296 * 2) % 4294967296 = 32768 by decide +kernel, spec_right x hx 17 _ _ (by decide) (by decide) (by decide +kernel) (by decide +kernel)]
  simp only [Option.bind_some]
  rw [if_neg (by decide), show (Int.tdiv 2147483648 524288 % 4294967296 * 2) % 4294967296 = 8192 by decide +kernel, spec_right x hx 19 _ _ (by decide) (by decide) (by decide +kernel) (by decide +kernel)]
  simp only [Option.bind_some]
  rw [if_neg (by decide), if_pos trivial, Int.tdiv_eq_ediv_of_nonneg hx.1, show rt x 17 = rotr x 17 from rt_eq x 17 hx (by omega), show rt x 19 = rotr x 19 from rt_eq x 19 hx (by omega), show x / 1024 % 4294967296 = x / 1024 by have := hx.1; have := hx.2; omega]
theorem S0 (x : Int) (hx : w32 x) : spec_l05S.f x 128 262144 8 true = some (sg0 x) := by
  unfold spec_l05S.f sg0
  rw [if_neg (by decide), show (Int.tdiv 2147483648 128 % 4294967296 * 2) % 4294967296 = 33554432 by decide +kernel, spec_right x hx 7 _ _ (by decide) (by decide) (by decide +kernel) (by decide +kernel)]
  simp only [Option.bind_some]
  rw [if_neg (by decide), show (Int.tdiv 2147483648 262144 % 4294967296 * 2) % 4294967296 = 16384 by decide +kernel, spec_right x hx 18 _ _ (by decide) (by decide) (by decide +kernel) (by decide +kernel)]
  simp only [Option.bind_some]
  rw [if_neg (by decide), if_pos trivial, Int.tdiv_eq_ediv_of_nonneg hx.1, show rt x 7 = rotr x 7 from rt_eq x 7 hx (by omega), show rt x 18 = rotr x 18 from rt_eq x 18 hx (by omega), show x / 8 % 4294967296 = x / 8 by have := hx.1; have := hx.2; omega]
theorem SE (x : Int) (hx : w32 x) : spec_l05S.f x 64 2048 33554432 false = some (Go.bits .xor .u32 (Go.bits .xor .u32 (rt x 6) (rt x 11)) (rt x 25)) := by
  unfold spec_l05S.f
  rw [if_neg (by decide), show (Int.tdiv 2147483648 64 % 4294967296 * 2) % 4294967296 = 67108864 by decide +kernel, spec_right x hx 6 _ _ (by decide) (by decide) (by decide +kernel) (by decide +kernel)]
  simp only [Option.bind_some]
  rw [if_neg (by decide), show (Int.tdiv 2147483648 2048 % 4294967296 * 2) % 4294967296 = 2097152 by decide +kernel, spec_right x hx 11 _ _ (by decide) (by decide) (by decide +kernel) (by decide +kernel)]
  simp only [Option.bind_some]
  rw [if_neg (by decide), if_neg (by decide), show (Int.tdiv 2147483648 33554432 % 4294967296 * 2) % 4294967296 = 128 by decide +kernel, spec_right x hx 25 _ _ (by decide) (by decide) (by decide +kernel) (by decide +kernel), show rt x 6 = rotr x 6 from rt_eq x 6 hx (by omega), show rt x 11 = rotr x 11 from rt_eq x 11 hx (by omega), show rt x 25 = rotr x 25 from rt_eq x 25 hx (by omega)]
  rfl
theorem SA (x : Int) (hx : w32 x) : spec_l05S.f x 4 8192 4194304 false = some (Go.bits .xor .u32 (Go.bits .xor .u32 (rt x 2) (rt x 13)) (rt x 22)) := by
  unfold spec_l05S.f
  rw [if_neg (by decide), show (Int.tdiv 2147483648 4 % 4294967296 * 2) % 4294967296 = 1073741824 by decide +kernel, spec_right x hx 2 _ _ (by decide) (by decide) (by decide +kernel) (by decide +kernel)]
  simp only [Option.bind_some]
  rw [if_neg (by decide), show (Int.tdiv 2147483648 8192 % 4294967296 * 2) % 4294967296 = 524288 by decide +kernel, spec_right x hx 13 _ _ (by decide) (by decide) (by decide +kernel) (by decide +kernel)]
  simp only [Option.bind_some]
  rw [if_neg (by decide), if_neg (by decide), show (Int.tdiv 2147483648 4194304 % 4294967296 * 2) % 4294967296 = 1024 by decide +kernel, spec_right x hx 22 _ _ (by decide) (by decide) (by decide +kernel) (by decide +kernel), show rt x 2 = rotr x 2 from rt_eq x 2 hx (by omega), show rt x 13 = rotr x 13 from rt_eq x 13 hx (by omega), show rt x 22 = rotr x 22 from rt_eq x 22 hx (by omega)]
  rfl
theorem spec_word (s : ByteArray) (i : Nat) (h : 4 * i + 4 ≤ s.size) (hs : s.size ≤ 1152921504606846975) : spec_l05Word.f s ((4 * i : Nat) : Int) = some (wd s i) := by
  have e1 : wrap64 (((4 * i : Nat) : Int) + 1) = ((4 * i + 1 : Nat) : Int) := by unfold wrap64; omega
  have e2 : wrap64 (((4 * i : Nat) : Int) + 2) = ((4 * i + 2 : Nat) : Int) := by unfold wrap64; omega
  have e3 : wrap64 (((4 * i : Nat) : Int) + 3) = ((4 * i + 3 : Nat) : Int) := by unfold wrap64; omega
  have h0 := bt_range s ((4 * i : Nat) : Int)
  have h1 := bt_range s ((4 * i + 1 : Nat) : Int)
  have h2 := bt_range s ((4 * i + 2 : Nat) : Int)
  have h3 := bt_range s ((4 * i + 3 : Nat) : Int)
  unfold spec_l05Word.f
  rw [e1, e2, e3]
  rw [if_pos (by omega), if_pos (by omega), if_pos (by omega), if_pos (by omega), if_pos (by omega), if_pos (by omega), if_pos (by omega), if_pos (by omega)]
  unfold wd
  congr 1
  generalize bt s ((4 * i : Nat) : Int) = b0 at *
  generalize bt s ((4 * i + 1 : Nat) : Int) = b1 at *
  generalize bt s ((4 * i + 2 : Nat) : Int) = b2 at *
  generalize bt s ((4 * i + 3 : Nat) : Int) = b3 at *
  clear e1 e2 e3
  omega
theorem spec_words (s : ByteArray) (n : Nat) (hn : s.size = 4 * n) (hs : s.size ≤ 1048576) : ∀ (d K i : Nat), i + d = n → d + 1 ≤ K → spec_l05Words.l0 K s ((List.range i).map (wd s)) ((4 * i : Nat) : Int) = some ((List.range n).map (wd s)) := by
  intro d
  induction d with
  | zero =>
    intro K i h hK
    obtain ⟨K, rfl⟩ : ∃ m, K = m + 1 := ⟨K - 1, by omega⟩
    have e1 : wrap64 (((4 * i : Nat) : Int) + 4) = ((4 * i + 4 : Nat) : Int) := by unfold wrap64; omega
    rw [spec_l05Words.l0, e1, if_neg (by omega), show i = n by omega]
  | succ d ih =>
    intro K i h hK
    obtain ⟨K, rfl⟩ : ∃ m, K = m + 1 := ⟨K - 1, by omega⟩
    have e1 : wrap64 (((4 * i : Nat) : Int) + 4) = ((4 * (i + 1) : Nat) : Int) := by unfold wrap64; omega
    rw [spec_l05Words.l0, e1, if_pos (by omega), spec_word s i (by omega) (by omega)]
    simp only [Option.bind_some]
    rw [if_pos (by rw [List.length_map, List.length_range]; omega)]
    have := ih K (i + 1) (by omega) (by omega)
    rw [List.range_succ, List.map_append] at this
    exact this
theorem spec_Words_f (s : ByteArray) (n K : Nat) (hn : s.size = 4 * n) (hs : s.size ≤ 1048576) (hK : n + 1 ≤ K) : spec_l05Words.f K s = some ((List.range n).map (wd s)) := spec_words s n hn hs n K 0 (by omega) (by omega)
end Go.Proofs.YtlddohppkcndjaaDoor.Sha
