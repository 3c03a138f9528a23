/- The words of a block: the sixteen that it holds, and the forty-eight that are made of them. -/
import Derived.Test.YtlddohppkcndjaaDoorShaB
namespace Go.Proofs.YtlddohppkcndjaaDoor.Sha
open Go.RowKit Go.Proofs.YtlddohppkcndjaaDoorW.PrintWords Go.Proofs.YtlddohppkcndjaaDoorW.PrintLast Go.Proofs.YtlddohppkcndjaaDoorW.PrintMore Go.Proofs.YtlddohppkcndjaaDoor.Pending Go.Proofs.YtlddohppkcndjaaDoor.Pright
set_option linter.unusedVariables false
set_option linter.unusedSimpArgs false

def zero64 : List Int := List.replicate 64 0
def wTo (s : ByteArray) : Nat → List Int
  | 0 => zero64
  | i + 1 => tsStep s (wTo s i) i
theorem wTo_len (s : ByteArray) : ∀ i, (wTo s i).length = 64
  | 0 => rfl
  | i + 1 => by simp [wTo, tsStep, wTo_len s i]
/-- What 'right' gives. -/
def rt (x n : Int) : Int := (impl_right.f x n).getD 0
theorem right_f (x n : Int) (h : n = 7 ∨ n = 18 ∨ n = 17 ∨ n = 19 ∨ n = 6 ∨ n = 11 ∨ n = 25 ∨ n = 2 ∨ n = 13 ∨ n = 22) : impl_right.f x n = some (rt x n) := by
  unfold rt
  have : (impl_right.f x n).isSome = true := by
    unfold impl_right.f bits_RotateLeft32.f
    rcases h with rfl | rfl | rfl | rfl | rfl | rfl | rfl | rfl | rfl | rfl <;> (rw [if_pos (by decide +kernel), if_pos (by decide +kernel)]; rfl)
  obtain ⟨r, hr⟩ := Option.isSome_iff_exists.1 this
  rw [hr]
  rfl
def m32 (x : Int) : Int := x % 4294967296
def sg0 (x : Int) : Int := Go.bits .xor .u32 (Go.bits .xor .u32 (rt x 7) (rt x 18)) (x / 8)
def sg1 (x : Int) : Int := Go.bits .xor .u32 (Go.bits .xor .u32 (rt x 17) (rt x 19)) (x / 1024)
def exStep (l : List Int) (u : Nat) : List Int := l.set (u + 16) ((sg1 (l.getD (u + 14) 0) + l.getD (u + 9) 0 + sg0 (l.getD (u + 1) 0) + l.getD u 0) % 4294967296)
def exTo (l : List Int) : Nat → List Int
  | 0 => l
  | u + 1 => exStep (exTo l u) u
theorem exTo_len (l : List Int) (h : l.length = 64) : ∀ u, (exTo l u).length = 64
  | 0 => h
  | u + 1 => by simp [exTo, exStep, exTo_len l h u]
def wds (s : ByteArray) : List Int := exTo (wTo s 64) 48
theorem wds_len (s : ByteArray) : (wds s).length = 64 := exTo_len _ (wTo_len s 64) 48
set_option maxHeartbeats 4000000 in
set_option maxRecDepth 100000 in
theorem words_calls (s : ByteArray) (hs : 64 ≤ s.size) (w : World) : Calls Tryd.prog 87 #[.string s] w fun e_ w' => e_ = .returned (arr (wds s)) ∧ Below w.heap.size w w' := by
  have HB := Aside0.mk (Below.refl w.heap.size w)
  go_enter Tryd.func87, Tryd.ntmps87
  go_wp2
  go_loopg [11] 16 (fun k s11 wx => ∃ i : Nat, i + k = 16 ∧ s11 = .int .i64 i ∧ Aside0 (Below w.heap.size w wx ∧ Blk wx (w.heap.size + 1) 101 (wTo s (4 * i)) ∧ Blk wx w.heap.size 101 zero64))
  case atStart => exact ⟨0, by omega, rfl, ⟨(HB.out.alloc (Nat.le_refl _) _).alloc (by rw [sz_alloc]; omega) _, by unfold Blk; rw [← sz_alloc w (.cells _ 101)]; exact heap_alloc_last _ _, blk_alloc (blk_new _ _) _⟩⟩
  case round =>
    obtain ⟨i, hik, rfl, HB1⟩ := hrel
    cases gk with
    | zero =>
      obtain rfl : i = 16 := by omega
      clear hik
      have hi : ¬ ((16 : Int) < 16) := by decide
      go_wp2
      go_loopg [6] 48 (fun k s6 wx => ∃ i : Nat, i + k = 48 ∧ s6 = .int .i64 ((i + 16 : Nat) : Int) ∧ Aside0 (Below w.heap.size w wx ∧ Blk wx (w.heap.size + 1) 101 (exTo (wTo s 64) i) ∧ Blk wx w.heap.size 101 zero64))
      case atStart => exact ⟨0, by omega, rfl, HB1⟩
      case round =>
        obtain ⟨u, huk, rfl, HB2⟩ := hrel
        cases gk with
        | zero =>
          obtain rfl : u = 48 := by omega
          clear huk
          have A1 := Aside0.mk HB2.out.2.1
          have A0 := Aside0.mk HB2.out.2.2
          go_wp2_with (first | ((with_reducible refine gate_dst (N := 76) rfl ?_); refine ld101 A1.out (wds_len s) (.tmp 3) rfl rfl rfl ?_) | ((with_reducible refine gate_store (t := 101) (p := 2) rfl ?_); refine st101 A0.out rfl (wds_len s) (.tmp 2) (.tmp 76) rfl rfl rfl rfl ?_))
          (try simp only [Exit.inBlock, Exit.then])
          exact bodyPost_ret (ret101 rfl _ _ (blk_row A0.out) (wds_len s) rfl) rfl ⟨rfl, setRow_below HB2.out.1 (Nat.le_refl _) _⟩
        | succ kk =>
          have hu : (u : Int) < 48 := by omega
          have hl : (exTo (wTo s 64) u).length = 64 := exTo_len _ (wTo_len s 64) u
          obtain ⟨l, hle⟩ : ∃ l, exTo (wTo s 64) u = l := ⟨_, rfl⟩
          rw [hle] at hl
          have A1 : Blk wr (w.heap.size + 1) 101 l := hle ▸ HB2.out.2.1
          obtain ⟨x1, hx1⟩ : ∃ x, l.getD (u + 1) 0 = x := ⟨_, rfl⟩
          obtain ⟨x2, hx2⟩ : ∃ x, l.getD (u + 14) 0 = x := ⟨_, rfl⟩
          obtain ⟨x3, hx3⟩ : ∃ x, l.getD (u + 9) 0 = x := ⟨_, rfl⟩
          obtain ⟨x4, hx4⟩ : ∃ x, l.getD u 0 = x := ⟨_, rfl⟩
          have c1 := blk_cell_ A1 (u + 1) (by omega)
          have c2 := blk_cell_ A1 (u + 14) (by omega)
          have c3 := blk_cell_ A1 (u + 9) (by omega)
          have c4 := blk_cell_ A1 u (by omega)
          have c5 := blk_cell_ A1 (u + 16) (by omega)
          have f5 := blk_froz A1 (u + 16)
          rw [hx1] at c1; rw [hx2] at c2; rw [hx3] at c3; rw [hx4] at c4
          have HI := Aside0.mk (And.intro huk (And.intro hle (And.intro hx1 (And.intro hx2 (And.intro hx3 hx4)))))
          have A1_ := Aside0.mk A1
          clear huk hle hx1 hx2 hx3 hx4 A1
          go_wp2
          go_region
          go_wp2_with (go_at_call 88; refine (impl_right.calls _ _ (rt _ _) _ (right_f _ _ (by decide))).mono ?_; rintro e_ w1 ⟨rfl, ⟨nd, rfl⟩⟩)
          go_region
          go_wp2
          go_roundg kk
          case measure => omega
          case rel =>
            obtain ⟨huk, hle, hx1, hx2, hx3, hx4⟩ := HI.out
            refine ⟨u + 1, by omega, by go_num, ⟨(pw_below_drewN HB2.out.1 _).setCell (Nat.le_succ _) _, ?_, blk_far (blk_drewN HB2.out.2.2 _) (by simp) _⟩⟩
            show Blk _ _ _ (exStep (exTo (wTo s 64) u) u)
            unfold exStep
            rw [hle, hx1, hx2, hx3, hx4]
            exact blk_put_ (blk_drewN A1_.out _) (u + 16) _
    | succ kk =>
      have hi : (i : Int) < 16 := by omega
      have HI := Aside0.mk hik
      clear hik
      go_wp2
      go_loopg [14] 4 (fun k s14 wx => ∃ j : Nat, j + k = 4 ∧ s14 = .int .i64 j ∧ Aside0 (Below w.heap.size w wx ∧ Blk wx (w.heap.size + 1) 101 (wTo s (4 * i + j)) ∧ Blk wx w.heap.size 101 zero64))
      case atStart => exact ⟨0, by omega, rfl, HB1⟩
      case round =>
        obtain ⟨j, hjk, rfl, HB2⟩ := hrel
        cases gk with
        | zero =>
          obtain rfl : j = 4 := by omega
          clear hjk
          go_wp2
          go_roundg kk
          case measure => omega
          case rel => exact ⟨i + 1, by have := HI.out; omega, by go_num, HB2⟩
        | succ jj =>
          have hj : (j : Int) < 4 := by omega
          have hl := wTo_len s (4 * i + j)
          have hx : ∃ x, (wTo s (4 * i + j)).getD i 0 = x := ⟨_, rfl⟩
          obtain ⟨x, hx⟩ := hx
          have hc := blk_cell_ HB2.out.2.1 i (by rw [hl]; omega)
          rw [hx] at hc
          have hf := blk_froz HB2.out.2.1 i
          have hb0 : (0 : Int) ≤ 4 * (i : Int) + (j : Int) ∧ 4 * (i : Int) + (j : Int) < (s.size : Int) := by omega
          have hbt : ∀ h : 4 * i + j < s.size, ((s[4 * i + j]'h).toNat : Int) = bt s (4 * (i : Int) + (j : Int)) := fun h => (bt_at s ((4 * i + j : Nat) : Int) h).trans (by push_cast; rfl)
          have hbr := bt_range s (4 * (i : Int) + (j : Int))
          obtain ⟨z, hz⟩ : ∃ z, bt s (4 * (i : Int) + (j : Int)) = z := ⟨_, rfl⟩
          simp only [hz] at hbt hbr
          have hzm : z % 4294967296 = z := by omega
          have HJ := Aside0.mk (And.intro hjk (And.intro hx hz))
          clear hjk hx hz hl
          go_wp2
          go_region
          go_wp2
          go_roundg jj
          case measure => omega
          case rel =>
            obtain ⟨hjk, hx, hz⟩ := HJ.out
            refine ⟨j + 1, by omega, by go_num, ⟨(HB2.out.1.setCell (Nat.le_succ _) _).drew, ?_, (blk_far HB2.out.2.2 (by simp) _)⟩⟩
            have := blk_put_ HB2.out.2.1 i (bits .or .u32 (x * 256 % 4294967296) z)
            show Blk _ _ _ (tsStep s (wTo s (4 * i + j)) (4 * i + j))
            unfold tsStep
            rw [show (4 * i + j) / 4 = i by omega, hx, show ((4 * i + j : Nat) : Int) = 4 * (i : Int) + (j : Int) by omega, hz]
            exact this
end Go.Proofs.YtlddohppkcndjaaDoor.Sha
