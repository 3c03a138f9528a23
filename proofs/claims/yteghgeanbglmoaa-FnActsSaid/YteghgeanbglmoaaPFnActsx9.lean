-- a text of this session's program wip/hyb.py (over the kit's print), out of the translation
import Derived.Test.YteghgeanbglmoaaPFnActsx0
import Derived.Test.YteghgeanbglmoaaDkFnActsZ
import Derived.Test.YteghgeanbglmoaaPFnActsx7
import Derived.Test.YteghgeanbglmoaaPFnActsx8
namespace Go.Proofs.Yteghgeanbglmoaa.PFnActs
open Go.RowKit Go.Proofs.YteghgeanbglmoaaW.PrintWords Go.Proofs.YteghgeanbglmoaaW.PrintLast Go.Proofs.YteghgeanbglmoaaW.PrintMore
attribute [local go_sem] max2_int min2_int max_two min_two max_three min_three max_four min_four   -- for this text's walks alone
set_option linter.unusedVariables false
set_option linter.unusedSimpArgs false

/-! ### spec_l03Disk: function 69 -/
mutual
def spec_l03Disk.l0 : Nat → Int → List Int → Int → Int → List (S67) → Option ((List (S67)) × Int × Int)
 | 0, _, _, _, _, _ => none
 | k + 1, x4, x1000, x1001, x1002, x243000 => (spec_l01Below.f x1000 x1001 x1002 6).bind fun bt243 => (if x4 < bt243.1 then ((spec_l01Below.f x1000 bt243.2.1 bt243.2.2 9).bind fun bt246 => ((spec_l01Text.f k x1000 bt246.2.1 bt246.2.2 bt246.1).bind fun bt249 => ((spec_l03Named.f x1000 bt249.2.1 bt249.2.2).bind fun bt252 => ((spec_l01Below.f x1000 bt252.2.1 bt252.2.2 (wrap64 ((bt249.1.size : Int) + 1))).bind fun bt255 => ((spec_l03Put.f x243000 bt252.1 bt249.1 bt255.1).bind fun t258 => (spec_l03Disk.l0 k (wrap64 (x4 + 1)) x1000 bt255.2.1 bt255.2.2 t258)))))) else (if (x243000.length : Int) = 0 then (some (x243000, bt243.2.1, bt243.2.2)) else ((spec_l01Below.f x1000 bt243.2.1 bt243.2.2 (x243000.length : Int)).bind fun bt261 => ((spec_l01Below.f x1000 bt261.2.1 bt261.2.2 40).bind fun bt264 => (if bt264.1 = 0 then (if 0 ≤ bt261.1 then (if bt261.1 < (x243000.length : Int) then ((spec_l01PickInt.f x1000 bt264.2.1 bt264.2.2 (([(-1), wrap64 ((((rd_T67 x243000 bt261.1).f1).size : Int) + 1)] : List Int))).bind fun bt271 => (some ((x243000.set (bt261.1 : Int).toNat (⟨(rd_T67 x243000 bt261.1).f0, (rd_T67 x243000 bt261.1).f1, bt271.1⟩ : S67)), bt271.2.1, bt271.2.2))) else (none)) else (none)) else (if bt264.1 = 1 then (if 0 ≤ bt261.1 then (if bt261.1 < (x243000.length : Int) then (if x243000.length < 3518437208883 then (some ((x243000 ++ [(⟨(rd_T67 x243000 bt261.1).f0, (rd_T67 x243000 bt261.1).f1, (rd_T67 x243000 bt261.1).f2⟩ : S67)]), bt264.2.1, bt264.2.2)) else (none)) else (none)) else (none)) else (if bt264.1 = 2 then ((spec_l01Pick.f x1000 bt264.2.1 bt264.2.2 (([(⟨#[]⟩ : ByteArray), (⟨#[49, 50, 51, 52, 53, 54, 55, 56]⟩ : ByteArray), (⟨#[49, 50, 51, 52, 53, 54, 55, 56, 57]⟩ : ByteArray)] : List ByteArray))).bind fun bt282 => (if 0 ≤ bt261.1 then (if bt261.1 < (x243000.length : Int) then (some ((x243000.set (bt261.1 : Int).toNat (⟨bt282.1, (rd_T67 x243000 bt261.1).f1, (rd_T67 x243000 bt261.1).f2⟩ : S67)), bt282.2.1, bt282.2.2)) else (none)) else (none))) else (if bt264.1 = 3 then (spec_l03Disk.l1 k 0 x1000 bt264.2.1 bt264.2.2 (([] : List (S67)))) else (if bt264.1 = 4 then ((spec_l01Below.f x1000 bt264.2.1 bt264.2.2 3).bind fun bt296 => ((spec_l01Long.f k (wrap64 (19999 + bt296.1)) 65).bind fun t299 => (if 0 ≤ bt261.1 then (if bt261.1 < (x243000.length : Int) then (some ((x243000.set (bt261.1 : Int).toNat (⟨(rd_T67 x243000 bt261.1).f0, t299, (rd_T67 x243000 bt261.1).f2⟩ : S67)), bt296.2.1, bt296.2.2)) else (none)) else (none)))) else (some (x243000, bt264.2.1, bt264.2.2)))))))))))
def spec_l03Disk.l1 : Nat → Int → List Int → Int → Int → List (S67) → Option ((List (S67)) × Int × Int)
 | 0, _, _, _, _, _ => none
 | k + 1, x7, x1000, x1001, x1002, x243000 => (spec_l01Below.f x1000 x1001 x1002 2).bind fun bt289 => (if x7 < (wrap64 (30 + bt289.1)) then ((spec_Decimal.f k (wrap64 (100 + x7))).bind fun t292 => (if 1 + t292.size ≤ 9223372036854775807 then (if x243000.length < 3518437208883 then (spec_l03Disk.l1 k (wrap64 (x7 + 1)) x1000 bt289.2.1 bt289.2.2 (x243000 ++ [(⟨(⟨#[102]⟩ : ByteArray) ++ t292, (⟨#[]⟩ : ByteArray), 0⟩ : S67)])) else (none)) else (none))) else (some (x243000, bt289.2.1, bt289.2.2)))
end
def spec_l03Disk.f (k : Nat) (s0_0 : List Int) (s0_1 : Int) (s0_2 : Int) : Option ((List (S67)) × Int × Int) := spec_l03Disk.l0 k 0 s0_0 s0_1 s0_2 ([] : List (S67))
theorem spec_l03Disk.mono_l : ∀ k, (∀ y0 y1 y2 y3 y4, LeO (spec_l03Disk.l0 k y0 y1 y2 y3 y4) (spec_l03Disk.l0 (k + 1) y0 y1 y2 y3 y4)) ∧ (∀ y0 y1 y2 y3 y4, LeO (spec_l03Disk.l1 k y0 y1 y2 y3 y4) (spec_l03Disk.l1 (k + 1) y0 y1 y2 y3 y4))
 | 0 => ⟨fun _ _ _ _ _ r h => by simp [spec_l03Disk.l0] at h, fun _ _ _ _ _ r h => by simp [spec_l03Disk.l1] at h⟩
 | k + 1 => by
  obtain ⟨ih0, ih1⟩ := spec_l03Disk.mono_l k
  refine ⟨?_, ?_⟩
  ·intro y0 y1 y2 y3 y4
   unfold spec_l03Disk.l0
   repeat' first
   | (with_reducible exact ih0 _ _ _ _ _)
   | (with_reducible exact ih1 _ _ _ _ _)
   | (with_reducible exact spec_Decimal.mono _ _)
   | (with_reducible exact spec_l01Long.mono _ _ _)
   | (with_reducible exact spec_l01Text.mono _ _ _ _ _)
   | (with_reducible exact LeO.refl _)
   | (with_reducible exact LeO.none _)
   | (with_reducible refine LeO.ite ?_ ?_)
   | (with_reducible refine LeO.bind ?_ (fun _ => ?_))
   | exact ih0 _ _ _ _ _
   | exact ih1 _ _ _ _ _
   | exact spec_Decimal.mono _ _
   | exact spec_l01Long.mono _ _ _
   | exact spec_l01Text.mono _ _ _ _ _
   | exact LeO.none _
   | refine LeO.ite ?_ ?_
   | refine LeO.bind ?_ (fun _ => ?_)
  ·intro y0 y1 y2 y3 y4
   unfold spec_l03Disk.l1
   repeat' first
   | (with_reducible exact ih0 _ _ _ _ _)
   | (with_reducible exact ih1 _ _ _ _ _)
   | (with_reducible exact spec_Decimal.mono _ _)
   | (with_reducible exact spec_l01Long.mono _ _ _)
   | (with_reducible exact spec_l01Text.mono _ _ _ _ _)
   | (with_reducible exact LeO.refl _)
   | (with_reducible exact LeO.none _)
   | (with_reducible refine LeO.ite ?_ ?_)
   | (with_reducible refine LeO.bind ?_ (fun _ => ?_))
   | exact ih0 _ _ _ _ _
   | exact ih1 _ _ _ _ _
   | exact spec_Decimal.mono _ _
   | exact spec_l01Long.mono _ _ _
   | exact spec_l01Text.mono _ _ _ _ _
   | exact LeO.none _
   | refine LeO.ite ?_ ?_
   | refine LeO.bind ?_ (fun _ => ?_)
theorem spec_l03Disk.mono : ∀ a0 a1 a2 k, LeO (spec_l03Disk.f k a0 a1 a2) (spec_l03Disk.f (k + 1) a0 a1 a2) := by
 intro a0 a1 a2 k
 obtain ⟨ih0, ih1⟩ := spec_l03Disk.mono_l k
 unfold spec_l03Disk.f
 repeat' first
   | (with_reducible exact ih0 _ _ _ _ _)
   | (with_reducible exact ih1 _ _ _ _ _)
   | (with_reducible exact spec_Decimal.mono _ _)
   | (with_reducible exact spec_l01Long.mono _ _ _)
   | (with_reducible exact spec_l01Text.mono _ _ _ _ _)
   | (with_reducible exact LeO.refl _)
   | (with_reducible exact LeO.none _)
   | (with_reducible refine LeO.ite ?_ ?_)
   | (with_reducible refine LeO.bind ?_ (fun _ => ?_))
   | exact ih0 _ _ _ _ _
   | exact ih1 _ _ _ _ _
   | exact spec_Decimal.mono _ _
   | exact spec_l01Long.mono _ _ _
   | exact spec_l01Text.mono _ _ _ _ _
   | exact LeO.none _
   | refine LeO.ite ?_ ?_
   | refine LeO.bind ?_ (fun _ => ?_)
def spec_l03Disk.T6 : Bool × List (List Nat × List Nat) := (true, [([], []), ([], []), ([1], [1]), ([], []), ([], []), ([], []), ([5], [5]), ([6], [6]), ([4, 7, 2], [4, 7]), ([2, 3, 8], [2, 3, 8]), ([0, 9, 8], [0, 9]), ([10, 10, 0, 1, 2, 3, 4, 5, 6, 7, 8, 9, 10], [10])])
def spec_l03Disk.B6 : List Nat := [0, 0, 2, 0, 0, 0, 32, 96, 246, 510, 1023, 2047]
theorem spec_l03Disk.tab6 : rtab .any (opsOf Try.f69 6) = spec_l03Disk.T6 := by kernel_rfl
theorem spec_l03Disk.bits6 : waitsOk spec_l03Disk.T6.2 spec_l03Disk.B6 = true := by kernel_rfl
def spec_l03Disk.T12 : Bool × List (List Nat × List Nat) := (true, [([], []), ([0], [0]), ([], []), ([], []), ([], []), ([4], [4]), ([], []), ([5, 6], [5, 6]), ([7], [7]), ([8], [8]), ([9], [9]), ([10], [10]), ([11], [11]), ([3, 12], [3, 12]), ([1, 2, 0, 1, 2, 3, 4, 5, 6, 7, 8, 9, 10, 11, 12, 13], [1, 2]), ([14, 0, 1, 2, 3, 4, 5, 6, 7, 8, 9, 10, 11, 12, 13], [14]), ([15, 13, 13, 0, 1, 2, 3, 4, 5, 6, 7, 8, 9, 10, 11, 12, 13], [13, 15])])
def spec_l03Disk.B12 : List Nat := [0, 1, 0, 0, 0, 16, 0, 112, 240, 496, 1008, 2032, 4080, 8184, 16383, 32767, 65535]
theorem spec_l03Disk.tab12 : rtab .any (opsOf Try.f69 12) = spec_l03Disk.T12 := by kernel_rfl
theorem spec_l03Disk.bits12 : waitsOk spec_l03Disk.T12.2 spec_l03Disk.B12 = true := by kernel_rfl
def spec_l03Disk.T14 : Bool × List (List Nat × List Nat) := (true, [([], []), ([0], [0]), ([], []), ([2], [2]), ([], []), ([3, 4], [3, 4]), ([5], [5]), ([6], [6]), ([1, 7], [1, 7]), ([0, 1, 2, 3, 4, 5, 6, 7, 8], []), ([9, 8, 8, 0, 1, 2, 3, 4, 5, 6, 7, 8], [8, 9])])
def spec_l03Disk.B14 : List Nat := [0, 1, 0, 4, 0, 28, 60, 124, 255, 511, 1023]
theorem spec_l03Disk.tab14 : rtab .any (opsOf Try.f69 14) = spec_l03Disk.T14 := by kernel_rfl
theorem spec_l03Disk.bits14 : waitsOk spec_l03Disk.T14.2 spec_l03Disk.B14 = true := by kernel_rfl
def spec_l03Disk.T16 : Bool × List (List Nat × List Nat) := (true, [([], []), ([0], [0]), ([], []), ([], []), ([], []), ([3, 4], [3, 4]), ([1, 2, 0, 1, 2, 3, 4, 5], [1, 2]), ([6, 0, 1, 2, 3, 4, 5], [6]), ([7, 5, 5, 0, 1, 2, 3, 4, 5], [5, 7])])
def spec_l03Disk.B16 : List Nat := [0, 1, 0, 0, 0, 24, 63, 127, 255]
theorem spec_l03Disk.tab16 : rtab .any (opsOf Try.f69 16) = spec_l03Disk.T16 := by kernel_rfl
theorem spec_l03Disk.bits16 : waitsOk spec_l03Disk.T16.2 spec_l03Disk.B16 = true := by kernel_rfl
def spec_l03Disk.T22 : Bool × List (List Nat × List Nat) := (true, [([], []), ([0], [0]), ([], []), ([2], [2]), ([3], [3]), ([4], [4]), ([5], [5]), ([6], [6]), ([1, 7, 4], [1, 7]), ([0, 1, 2, 3, 4, 5, 6, 7, 8], []), ([9, 8, 8, 0, 1, 2, 3, 4, 5, 6, 7, 8], [8, 9])])
def spec_l03Disk.B22 : List Nat := [0, 1, 0, 4, 12, 28, 60, 124, 255, 511, 1023]
theorem spec_l03Disk.tab22 : rtab .any (opsOf Try.f69 22) = spec_l03Disk.T22 := by kernel_rfl
theorem spec_l03Disk.bits22 : waitsOk spec_l03Disk.T22.2 spec_l03Disk.B22 = true := by kernel_rfl
def spec_l03Disk.T24 : Bool × List (List Nat × List Nat) := (true, [([], []), ([0], [0]), ([], []), ([], []), ([3], [3]), ([4], [4]), ([5, 4], [5]), ([1, 2, 0, 1, 2, 3, 4, 5, 6], [1, 2]), ([7, 0, 1, 2, 3, 4, 5, 6], [7]), ([8, 6, 6, 0, 1, 2, 3, 4, 5, 6], [6, 8])])
def spec_l03Disk.B24 : List Nat := [0, 1, 0, 0, 8, 24, 56, 127, 255, 511]
theorem spec_l03Disk.tab24 : rtab .any (opsOf Try.f69 24) = spec_l03Disk.T24 := by kernel_rfl
theorem spec_l03Disk.bits24 : waitsOk spec_l03Disk.T24.2 spec_l03Disk.B24 = true := by kernel_rfl
set_option maxHeartbeats 8000000 in
set_option maxRecDepth 100000 in
theorem spec_l03Disk.calls (k : Nat) (g : Nat) (s0_0 : List Int) (s0_1 : Int) (s0_2 : Int) (r1 : List (S67)) (r2 : Int) (r3 : Int) (w0 w : World) (hI : IsS101 w0 w g s0_0 s0_1 s0_2) (hB : Below w0.heap.size w0 w) (h : spec_l03Disk.f k s0_0 s0_1 s0_2 = some (r1, r2, r3)) :
  Calls Try.prog 69 #[.pointer (some ⟨g, 0, none⟩)] w fun e w' => ∃ v0_ : Value, e = .returned (.agg #[v0_]) ∧ Kd.R k67 67 w' w.heap.size (fun _ => True) v0_ r1 ∧ IsS101 w0 w' g s0_0 r2 r3 ∧ Below w0.heap.size w0 w' ∧ KeepBut w w' g none := by
 have hu29 := Try.underlying29
 have hu67 := Try.underlying67
 have HI0 := Aside0.mk hI
 have HK := Aside0.mk (KeepBut.refl w g none)
 have HL := Aside0.mk hB.size
 clear hI
 have HW0 := Aside0.mk hB.size
 have HB := Aside0.mk hB
 clear hB
 have H : (spec_l03Disk.l0 k 0 s0_0 s0_1 s0_2 ([] : List (S67))) = some (r1, r2, r3) := h
 clear h
 have H' := Aside0.mk H
 clear H
 go_enter Try.func69, Try.ntmps69
 go_wp2_with (first | ((with_reducible refine gate_dst (N := 2) rfl ?_); refine box_event ?hg (N := 2) ?hd (cs := #[.slice none 0 0]) (t := 29) ?hr ?_; (case hd => rfl); (case hg => rfl); (case hr => first | (go_simp; done) | (go_simp; rfl)); intro gb241 hg w2 hbox hb; have n0_ := Aside0.mk (IsS101.below (ii_ HI0) hb); have n1_ := Aside0.mk (KeepBut.trans (kk_ HK) (KeepBut.of_below hb g none) (.inl rfl)); have n2_ := Aside0.mk (below_step (hj_ HB) hb); have n3_ := Aside0.mk (hbox); have n4_ := Aside0.mk ((by rw [hg]; exact (keep_size (w := w) (g := g) (row := none) (kk_ HK)) : w.heap.size ≤ gb241)); have n5_ := Aside0.mk ((Nat.le_trans HW0.out (by rw [hg]; exact (keep_size (w := w) (g := g) (row := none) (kk_ HK)) : w.heap.size ≤ gb241) : w0.heap.size ≤ gb241)); have n6_ := Aside0.mk ((by rw [hg]; exact Nat.ne_of_lt (IsS101.lt (show IsS101 w0 _ g s0_0 s0_1 s0_2 from ii_ HI0)) : g ≠ gb241)); have n7_ := Aside0.mk ((by rw [hg]; exact Nat.ne_of_gt (IsS101.lt (show IsS101 w0 _ g s0_0 s0_1 s0_2 from ii_ HI0)) : gb241 ≠ g)); clear HI0 HK HB; have HI0 := n0_; have HK := n1_; have HB := n2_; have BK241 := n3_; have GW241 := n4_; have GE241 := n5_; have NB0_241 := n6_; have NB241_0 := n7_; clear n0_ n1_ n2_ n3_ n4_ n5_ n6_ n7_ hb hbox hg) | ((with_reducible refine gate_dst (N := 3) rfl ?_); refine box_event ?hg (N := 3) ?hd (cs := #[.slice none 0 0]) (t := 29) ?hr ?_; (case hd => rfl); (case hg => rfl); (case hr => first | (go_simp; done) | (go_simp; rfl)); intro gb242 hg w3 hbox hb; have n0_ := Aside0.mk (IsS101.below (ii_ HI0) hb); have n1_ := Aside0.mk (blk_below (bb_ BK241) hb); have n2_ := Aside0.mk (KeepBut.trans (kk_ HK) (KeepBut.of_below hb g none) (.inl rfl)); have n3_ := Aside0.mk (below_step (hj_ HB) hb); have n4_ := Aside0.mk (hbox); have n5_ := Aside0.mk ((by rw [hg]; exact (keep_size (w := w) (g := g) (row := none) (kk_ HK)) : w.heap.size ≤ gb242)); have n6_ := Aside0.mk ((Nat.le_trans HW0.out (by rw [hg]; exact (keep_size (w := w) (g := g) (row := none) (kk_ HK)) : w.heap.size ≤ gb242) : w0.heap.size ≤ gb242)); have n7_ := Aside0.mk ((by rw [hg]; exact Nat.ne_of_lt (blk_lt (bb_ BK241)) : gb241 ≠ gb242)); have n8_ := Aside0.mk ((by rw [hg]; exact Nat.ne_of_gt (blk_lt (bb_ BK241)) : gb242 ≠ gb241)); have n9_ := Aside0.mk ((by rw [hg]; exact Nat.ne_of_lt (IsS101.lt (show IsS101 w0 _ g s0_0 s0_1 s0_2 from ii_ HI0)) : g ≠ gb242)); have n10_ := Aside0.mk ((by rw [hg]; exact Nat.ne_of_gt (IsS101.lt (show IsS101 w0 _ g s0_0 s0_1 s0_2 from ii_ HI0)) : gb242 ≠ g)); clear HI0 BK241 HK HB; have HI0 := n0_; have BK241 := n1_; have HK := n2_; have HB := n3_; have BK242 := n4_; have GW242 := n5_; have GE242 := n6_; have NB241_242 := n7_; have NB242_241 := n8_; have NB0_242 := n9_; have NB242_0 := n10_; clear n0_ n1_ n2_ n3_ n4_ n5_ n6_ n7_ n8_ n9_ n10_ hb hbox hg; have hnb4 := NB242_241.out; have hnc4 := NB241_242.out; have hnb5 := NB242_0.out; have hnc5 := NB0_242.out; have hcz6_0 : w3.cell? ⟨gb242, 0, none⟩ = some (.slice none 0 0) := (blk_cell BK242.out 0).trans rfl; have hfz6_0 := blk_frozen BK242.out 0))
 go_loopg [4] k (fun kq v4 w' => ∃ (x4_1 : Int) (x1001_1 : Int) (x1002_1 : Int) (x243000_1 : List (S67)) (u243000 : Value), v4 = .int .i64 x4_1 ∧ Aside0 (spec_l03Disk.l0 kq x4_1 s0_0 x1001_1 x1002_1 x243000_1 = some (r1, r2, r3)) ∧ Aside0 (kq ≤ k) ∧ Aside0 (Kd.R k67 67 w' w.heap.size (fun _ => True) u243000 x243000_1) ∧ Aside0 (w'.heap[gb241]? = some (.cells #[(.slice none 0 0)] 29 (0, 0))) ∧ Aside0 (w'.heap[gb242]? = some (.cells #[u243000] 29 (0, 0))) ∧ Aside0 (IsS101 w0 w' g s0_0 x1001_1 x1002_1) ∧ Aside0 (KeepBut w w' g none) ∧ Aside0 (Below w0.heap.size w0 w'))
 case atStart => exact ⟨(0), (s0_1), (s0_2), (([] : List (S67))), (.slice none 0 0), (by first | rfl | (simp; done) | (simp [*]; done)), H', ⟨Nat.le_refl _⟩, ⟨by first | exact Kd.R_nil _ _ _ _ _ | exact Kd.N_nil _ _ _ _ _ | exact Kd.V_nil _ _ _ _ _ | exact Kd.Q_nil _ _ _ _ _ | exact Kd.S_nil _ _ _ _ _⟩, ⟨by (with_reducible repeat (first | refine blk_drewN ?_ _ | refine blk_drew ?_ | refine blk_alloc ?_ _)); refine blk_far ?_ NB241_242.out _; exact bb_ BK241⟩, ⟨by (with_reducible repeat (first | refine blk_drewN ?_ _ | refine blk_drew ?_ | refine blk_alloc ?_ _)); refine blk_put (cs := #[.slice none 0 0]) ?_ 0 _ rfl; exact bb_ BK242⟩, ⟨ii_ HI0⟩, ⟨kk_ HK⟩, ⟨hj_ HB⟩⟩
 case round =>
  clear H'
  try clear p2
  try clear c4
  try clear c5
  try clear c6
  try clear hcz6_0
  try clear hfz6_0
  obtain ⟨x4_1, x1001_1, x1002_1, x243000_1, u243000, rfl, HA, HK1, HO_243000, BK241, BK242, HI0, HK, HB⟩ := hrel
  cases gk with
  | zero => exact absurd HA.out (by simp [spec_l03Disk.l0])
  | succ k1 =>
   have H := HA.out
   clear HA
   simp only [spec_l03Disk.l0] at H
   replace H := Option.bind_eq_some_iff.mp H
   obtain ⟨⟨t243, t244, t245⟩, A70, H⟩ := H
   replace H : (if x4_1 < t243 then ((spec_l01Below.f s0_0 t244 t245 9).bind fun bt246 => ((spec_l01Text.f k1 s0_0 bt246.2.1 bt246.2.2 bt246.1).bind fun bt249 => ((spec_l03Named.f s0_0 bt249.2.1 bt249.2.2).bind fun bt252 => ((spec_l01Below.f s0_0 bt252.2.1 bt252.2.2 (wrap64 ((bt249.1.size : Int) + 1))).bind fun bt255 => ((spec_l03Put.f x243000_1 bt252.1 bt249.1 bt255.1).bind fun t258 => (spec_l03Disk.l0 k1 (wrap64 (x4_1 + 1)) s0_0 bt255.2.1 bt255.2.2 t258)))))) else (if (x243000_1.length : Int) = 0 then (some (x243000_1, t244, t245)) else ((spec_l01Below.f s0_0 t244 t245 (x243000_1.length : Int)).bind fun bt261 => ((spec_l01Below.f s0_0 bt261.2.1 bt261.2.2 40).bind fun bt264 => (if bt264.1 = 0 then (if 0 ≤ bt261.1 then (if bt261.1 < (x243000_1.length : Int) then ((spec_l01PickInt.f s0_0 bt264.2.1 bt264.2.2 (([(-1), wrap64 ((((rd_T67 x243000_1 bt261.1).f1).size : Int) + 1)] : List Int))).bind fun bt271 => (some ((x243000_1.set (bt261.1 : Int).toNat (⟨(rd_T67 x243000_1 bt261.1).f0, (rd_T67 x243000_1 bt261.1).f1, bt271.1⟩ : S67)), bt271.2.1, bt271.2.2))) else (none)) else (none)) else (if bt264.1 = 1 then (if 0 ≤ bt261.1 then (if bt261.1 < (x243000_1.length : Int) then (if x243000_1.length < 3518437208883 then (some ((x243000_1 ++ [(⟨(rd_T67 x243000_1 bt261.1).f0, (rd_T67 x243000_1 bt261.1).f1, (rd_T67 x243000_1 bt261.1).f2⟩ : S67)]), bt264.2.1, bt264.2.2)) else (none)) else (none)) else (none)) else (if bt264.1 = 2 then ((spec_l01Pick.f s0_0 bt264.2.1 bt264.2.2 (([(⟨#[]⟩ : ByteArray), (⟨#[49, 50, 51, 52, 53, 54, 55, 56]⟩ : ByteArray), (⟨#[49, 50, 51, 52, 53, 54, 55, 56, 57]⟩ : ByteArray)] : List ByteArray))).bind fun bt282 => (if 0 ≤ bt261.1 then (if bt261.1 < (x243000_1.length : Int) then (some ((x243000_1.set (bt261.1 : Int).toNat (⟨bt282.1, (rd_T67 x243000_1 bt261.1).f1, (rd_T67 x243000_1 bt261.1).f2⟩ : S67)), bt282.2.1, bt282.2.2)) else (none)) else (none))) else (if bt264.1 = 3 then (spec_l03Disk.l1 k1 0 s0_0 bt264.2.1 bt264.2.2 (([] : List (S67)))) else (if bt264.1 = 4 then ((spec_l01Below.f s0_0 bt264.2.1 bt264.2.2 3).bind fun bt296 => ((spec_l01Long.f k1 (wrap64 (19999 + bt296.1)) 65).bind fun t299 => (if 0 ≤ bt261.1 then (if bt261.1 < (x243000_1.length : Int) then (some ((x243000_1.set (bt261.1 : Int).toNat (⟨(rd_T67 x243000_1 bt261.1).f0, t299, (rd_T67 x243000_1 bt261.1).f2⟩ : S67)), bt296.2.1, bt296.2.2)) else (none)) else (none)))) else (some (x243000_1, bt264.2.1, bt264.2.2))))))))))) = some (r1, r2, r3) := H
   have A7 := Aside0.mk A70
   clear A70
   by_cases c8 : x4_1 < t243
   ·rw [if_pos c8] at H
    have c8b0 : decide (x4_1 < t243) = true := decide_eq_true c8
    clear c8
    replace H := Option.bind_eq_some_iff.mp H
    obtain ⟨⟨t246, t247, t248⟩, A90, H⟩ := H
    replace H : ((spec_l01Text.f k1 s0_0 t247 t248 t246).bind fun bt249 => ((spec_l03Named.f s0_0 bt249.2.1 bt249.2.2).bind fun bt252 => ((spec_l01Below.f s0_0 bt252.2.1 bt252.2.2 (wrap64 ((bt249.1.size : Int) + 1))).bind fun bt255 => ((spec_l03Put.f x243000_1 bt252.1 bt249.1 bt255.1).bind fun t258 => (spec_l03Disk.l0 k1 (wrap64 (x4_1 + 1)) s0_0 bt255.2.1 bt255.2.2 t258))))) = some (r1, r2, r3) := H
    have A9 := Aside0.mk A90
    clear A90
    replace H := Option.bind_eq_some_iff.mp H
    obtain ⟨⟨t249, t250, t251⟩, A100, H⟩ := H
    replace H : ((spec_l03Named.f s0_0 t250 t251).bind fun bt252 => ((spec_l01Below.f s0_0 bt252.2.1 bt252.2.2 (wrap64 ((t249.size : Int) + 1))).bind fun bt255 => ((spec_l03Put.f x243000_1 bt252.1 t249 bt255.1).bind fun t258 => (spec_l03Disk.l0 k1 (wrap64 (x4_1 + 1)) s0_0 bt255.2.1 bt255.2.2 t258)))) = some (r1, r2, r3) := H
    have A10 := Aside0.mk A100
    clear A100
    replace H := Option.bind_eq_some_iff.mp H
    obtain ⟨⟨t252, t253, t254⟩, A110, H⟩ := H
    replace H : ((spec_l01Below.f s0_0 t253 t254 (wrap64 ((t249.size : Int) + 1))).bind fun bt255 => ((spec_l03Put.f x243000_1 t252 t249 bt255.1).bind fun t258 => (spec_l03Disk.l0 k1 (wrap64 (x4_1 + 1)) s0_0 bt255.2.1 bt255.2.2 t258))) = some (r1, r2, r3) := H
    have A11 := Aside0.mk A110
    clear A110
    replace H := Option.bind_eq_some_iff.mp H
    obtain ⟨⟨t255, t256, t257⟩, A120, H⟩ := H
    replace H : ((spec_l03Put.f x243000_1 t252 t249 t255).bind fun t258 => (spec_l03Disk.l0 k1 (wrap64 (x4_1 + 1)) s0_0 t256 t257 t258)) = some (r1, r2, r3) := H
    have A12 := Aside0.mk A120
    clear A120
    replace H := Option.bind_eq_some_iff.mp H
    obtain ⟨t258, A130, H⟩ := H
    replace H : (spec_l03Disk.l0 k1 (wrap64 (x4_1 + 1)) s0_0 t256 t257 t258) = some (r1, r2, r3) := H
    have A13 := Aside0.mk A130
    clear A130
    have H' := Aside0.mk H
    clear H
    try go_wp2_with (first | ((with_reducible refine gate_callee (f := 65) rfl ?_); refine goesL_ (some 11) rfl rfl Try.func65 (by kernel_rfl) rfl #[.pointer (some ⟨g, 0, none⟩), .int .i64 6] rfl (by (try simp only [List.map_toArray, List.map_cons, List.map_nil]); first | done | rfl | (simp only [List.length_drop, List.length_take]; rfl)) ?_; (with_reducible refine (spec_l01Below.calls g s0_0 x1001_1 x1002_1 6 t243 t244 t245 w0 _ ?side1 ?side2 A7.out).mono ?_); (case side1 => exact ii_ HI0); (case side2 => exact hj_ HB); rintro e w14 ⟨rfl, hi, hb, hk⟩; refine ⟨_, rfl, ?_⟩; have n0_ := Aside0.mk (Kd.R_mono (Kd.R_keep (IsS101.apart (show IsS101 w0 _ g s0_0 x1001_1 x1002_1 from ii_ HI0) (rr_ HO_243000) (by decide)) hk (fun _ h => h.2)) (fun _ h => h.1)); have n1_ := Aside0.mk (KeepBut.blk hk (g' := gb241) (o := .cells #[.slice none 0 0] 29 (0, 0)) (bb_ BK241) NB241_0.out (by simp)); have n2_ := Aside0.mk (KeepBut.blk hk (g' := gb242) (o := .cells #[u243000] 29 (0, 0)) (bb_ BK242) NB242_0.out (by simp)); have n3_ := Aside0.mk (KeepBut.trans (kk_ HK) hk (.inl rfl)); have n4_ := Aside0.mk (hb); have n5_ := Aside0.mk (hi); clear HO_243000 BK241 BK242 HK HB HI0; have HO_243000 := n0_; have BK241 := n1_; have BK242 := n2_; have HK := n3_; have HB := n4_; have HI0 := n5_; clear n0_ n1_ n2_ n3_ n4_ n5_; (try clear hb); (try clear hb2); (try clear hk); (try clear hi)) | ((with_reducible refine gate_callee (f := 65) rfl ?_); refine goesL_ (some 17) rfl rfl Try.func65 (by kernel_rfl) rfl #[.pointer (some ⟨g, 0, none⟩), .int .i64 9] rfl (by (try simp only [List.map_toArray, List.map_cons, List.map_nil]); first | done | rfl | (simp only [List.length_drop, List.length_take]; rfl)) ?_; (with_reducible refine (spec_l01Below.calls g s0_0 t244 t245 9 t246 t247 t248 w0 _ ?side1 ?side2 A9.out).mono ?_); (case side1 => exact ii_ HI0); (case side2 => exact hj_ HB); rintro e w15 ⟨rfl, hi, hb, hk⟩; refine ⟨_, rfl, ?_⟩; have n0_ := Aside0.mk (Kd.R_mono (Kd.R_keep (IsS101.apart (show IsS101 w0 _ g s0_0 t244 t245 from ii_ HI0) (rr_ HO_243000) (by decide)) hk (fun _ h => h.2)) (fun _ h => h.1)); have n1_ := Aside0.mk (KeepBut.blk hk (g' := gb241) (o := .cells #[.slice none 0 0] 29 (0, 0)) (bb_ BK241) NB241_0.out (by simp)); have n2_ := Aside0.mk (KeepBut.blk hk (g' := gb242) (o := .cells #[u243000] 29 (0, 0)) (bb_ BK242) NB242_0.out (by simp)); have n3_ := Aside0.mk (KeepBut.trans (kk_ HK) hk (.inl rfl)); have n4_ := Aside0.mk (hb); have n5_ := Aside0.mk (hi); clear HO_243000 BK241 BK242 HK HB HI0; have HO_243000 := n0_; have BK241 := n1_; have BK242 := n2_; have HK := n3_; have HB := n4_; have HI0 := n5_; clear n0_ n1_ n2_ n3_ n4_ n5_; (try clear hb); (try clear hb2); (try clear hk); (try clear hi)) | ((with_reducible refine gate_callee (f := 66) rfl ?_); refine goesL_ (some 18) rfl rfl Try.func66 (by kernel_rfl) rfl #[.pointer (some ⟨g, 0, none⟩), .int .i64 t246] rfl (by (try simp only [List.map_toArray, List.map_cons, List.map_nil]); first | done | rfl | (simp only [List.length_drop, List.length_take]; rfl)) ?_; (with_reducible refine (spec_l01Text.calls k1 g s0_0 t247 t248 t246 t249 t250 t251 w0 _ ?side1 ?side2 A10.out).mono ?_); (case side1 => exact ii_ HI0); (case side2 => exact hj_ HB); rintro e w16 ⟨rfl, hi, hb, hk⟩; refine ⟨_, rfl, ?_⟩; have n0_ := Aside0.mk (Kd.R_mono (Kd.R_keep (IsS101.apart (show IsS101 w0 _ g s0_0 t247 t248 from ii_ HI0) (rr_ HO_243000) (by decide)) hk (fun _ h => h.2)) (fun _ h => h.1)); have n1_ := Aside0.mk (KeepBut.blk hk (g' := gb241) (o := .cells #[.slice none 0 0] 29 (0, 0)) (bb_ BK241) NB241_0.out (by simp)); have n2_ := Aside0.mk (KeepBut.blk hk (g' := gb242) (o := .cells #[u243000] 29 (0, 0)) (bb_ BK242) NB242_0.out (by simp)); have n3_ := Aside0.mk (KeepBut.trans (kk_ HK) hk (.inl rfl)); have n4_ := Aside0.mk (hb); have n5_ := Aside0.mk (hi); clear HO_243000 BK241 BK242 HK HB HI0; have HO_243000 := n0_; have BK241 := n1_; have BK242 := n2_; have HK := n3_; have HB := n4_; have HI0 := n5_; clear n0_ n1_ n2_ n3_ n4_ n5_; (try clear hb); (try clear hb2); (try clear hk); (try clear hi)))
    have n0_ := Aside0.mk (Kd.R_drew HO_243000.out)
    have n1_ := Aside0.mk (blk_drew BK241.out)
    have n2_ := Aside0.mk (blk_drew BK242.out)
    have n3_ := Aside0.mk (IsS101.drew HI0.out)
    have n4_ := Aside0.mk (keep_drew HK.out)
    have n5_ := Aside0.mk (below_drew1 HB.out)
    clear HO_243000 BK241 BK242 HI0 HK HB
    have HO_243000 := n0_; have BK241 := n1_; have BK242 := n2_; have HI0 := n3_; have HK := n4_; have HB := n5_
    clear n0_ n1_ n2_ n3_ n4_ n5_
    refine start_ (n := 12) (S := fun w' => w'.cell? ⟨gb242, 0, none⟩ = some (u243000)) (ds := [11]) #[false, false, false, false, false, false, false, false, false, false, false, false] (by kernel_rfl) rfl rfl ((blk_cell BK242.out 0).trans rfl) (fun hHeld => ?_); refine with_tabW spec_l03Disk.tab6 spec_l03Disk.bits6 (fun HT_ HW_ => ?_)
    generalize w16.drew = w17 at HO_243000 BK241 BK242 HI0 HK HB hHeld ⊢
    refine pure_ (i := 1) (N := some 20) (v := ?_) (a' := ?_) #[false, true, false, false, false, false, false, false, false, false, false, false] rfl rfl (any_of HT_.out (by kernel_rfl)) (fun _ _ _ h => h) (Or.inl ⟨by rfl, ?_⟩) ?_ ?_
    rotate_left
    ·intro w'
     go_simp
     with_reducible rfl
    rotate_left
    ·simp only [Act.put, List.setIfInBounds_toArray, List.set_cons_zero, List.set_cons_succ, i64_w, i32_w]
     rfl
    refine pure_ (i := 3) (N := some 22) (v := ?_) (a' := ?_) #[false, true, false, true, false, false, false, false, false, false, false, false] rfl rfl (any_of HT_.out (by kernel_rfl)) (fun _ _ _ h => h) (Or.inl ⟨by rfl, ?_⟩) ?_ ?_
    rotate_left
    ·intro w'
     go_simp
     with_reducible rfl
    rotate_left
    ·simp only [Act.put, List.setIfInBounds_toArray, List.set_cons_zero, List.set_cons_succ, i64_w, i32_w]
     rfl
    refine pure_ (i := 4) (N := some 23) (v := ?_) (a' := ?_) #[false, true, false, true, true, false, false, false, false, false, false, false] rfl rfl (any_of HT_.out (by kernel_rfl)) (fun _ _ _ h => h) (Or.inl ⟨by rfl, ?_⟩) ?_ ?_
    rotate_left
    ·intro w'
     go_simp
     with_reducible rfl
    rotate_left
    ·simp only [Act.put, List.setIfInBounds_toArray, List.set_cons_zero, List.set_cons_succ, i64_w, i32_w]
     rfl
    refine pure_ (i := 5) (N := some 24) (v := ?_) (a' := ?_) #[false, true, false, true, true, true, false, false, false, false, false, false] rfl rfl (any_of HT_.out (by kernel_rfl)) (fun _ _ _ h => h) (Or.inl ⟨by rfl, ?_⟩) ?_ ?_
    rotate_left
    ·intro w'
     go_simp
     with_reducible rfl
    rotate_left
    ·simp only [Act.put, List.setIfInBounds_toArray, List.set_cons_zero, List.set_cons_succ, i64_w, i32_w]
     rfl
    refine pure_ (i := 6) (N := some 25) (v := ?_) (a' := ?_) #[false, true, false, true, true, true, true, false, false, false, false, false] rfl rfl (any_of HT_.out (by kernel_rfl)) (fun _ _ _ h => h) (Or.inl ⟨by rfl, ?_⟩) ?_ ?_
    rotate_left
    ·intro w'
     go_simp
     with_reducible rfl
    rotate_left
    ·simp only [Act.put, List.setIfInBounds_toArray, List.set_cons_zero, List.set_cons_succ, i64_w, i32_w]
     rfl
    refine pure_ (i := 7) (N := some 26) (v := ?_) (a' := ?_) #[false, true, false, true, true, true, true, true, false, false, false, false] rfl rfl (any_of HT_.out (by kernel_rfl)) (fun _ _ _ h => h) (Or.inl ⟨by rfl, ?_⟩) ?_ ?_
    rotate_left
    ·intro w'
     go_simp
     with_reducible rfl
    rotate_left
    ·simp only [Act.put, List.setIfInBounds_toArray, List.set_cons_zero, List.set_cons_succ, i64_w, i32_w]
     rfl
    refine take_ (i := 0) (N := some 19) (v := ?_) (a' := ?_) #[true, true, false, true, true, true, true, true, false, false, false, false] rfl rfl (take_ofW HT_.out HW_.out (by kernel_rfl)) (fun _ _ _ h => h) (Or.inl ⟨by rfl, ?_⟩) hHeld ?_ ?_
    rotate_left
    ·intro w' s0
     go_simp
     with_reducible rfl
    rotate_left
    ·simp only [Act.put, List.setIfInBounds_toArray, List.set_cons_zero, List.set_cons_succ, i64_w, i32_w]
     rfl
    refine one_ (i := 2) (N := some 21) #[true, true, true, true, true, true, true, true, false, false, false, false] rfl rfl (one_of HT_.out (by kernel_rfl)) (by decide) (fun K hK => ?_)
    refine goes_ Try.func67 (by kernel_rfl) rfl #[.pointer (some ⟨g, 0, none⟩)] (by rfl) rfl rfl (by (try simp only [List.map_toArray, List.map_cons, List.map_nil]); first | done | rfl | (simp only [List.length_drop, List.length_take]; rfl)) ?_
    with_reducible refine (spec_l03Named.calls g s0_0 t250 t251 t252 t253 t254 w0 _ ?side1 ?side2 A11.out).mono ?_
    (case side1 => exact ii_ HI0)
    (case side2 => exact hj_ HB)
    rintro e w18 ⟨rfl, hi, hb, hk⟩
    refine ⟨_, rfl, ?_⟩
    have n0_ := Aside0.mk (Kd.R_mono (Kd.R_keep (IsS101.apart (show IsS101 w0 _ g s0_0 t250 t251 from ii_ HI0) HO_243000.out (by decide)) hk (fun _ h => h.2)) (fun _ h => h.1))
    have n1_ := Aside0.mk (KeepBut.blk hk (g' := gb241) (o := .cells #[.slice none 0 0] 29 (0, 0)) BK241.out NB241_0.out (by simp))
    have n2_ := Aside0.mk (KeepBut.blk hk (g' := gb242) (o := .cells #[u243000] 29 (0, 0)) BK242.out NB242_0.out (by simp))
    have n3_ := Aside0.mk (KeepBut.trans (kk_ HK) hk (.inl rfl))
    have n4_ := Aside0.mk (hb)
    have n5_ := Aside0.mk (hi)
    clear HO_243000 BK241 BK242 HK HB HI0
    have HO_243000 := n0_; have BK241 := n1_; have BK242 := n2_; have HK := n3_; have HB := n4_; have HI0 := n5_
    clear n0_ n1_ n2_ n3_ n4_ n5_
    (try clear hb); (try clear hb2); (try clear hk); (try clear hi)
    refine hK.out _ _ ((blk_cell BK242.out 0).trans rfl) (fun hHeld => ?_)
    clear hK K
    refine norm_ (a' := ?_) ?_ ?_
    rotate_left
    ·show Act.put _ (some 21) _ = _
     simp only [Act.put, List.setIfInBounds_toArray, List.set_cons_zero, List.set_cons_succ, i64_w, i32_w]
     rfl
    refine one_ (i := 8) (N := some 27) #[true, true, true, true, true, true, true, true, true, false, false, false] rfl rfl (one_of HT_.out (by kernel_rfl)) (by decide) (fun K hK => ?_)
    refine goes_ Try.func65 (by kernel_rfl) rfl #[.pointer (some ⟨g, 0, none⟩), .int .i64 (wrap64 ((t249.size : Int) + 1))] (by rfl) rfl rfl (by (try simp only [List.map_toArray, List.map_cons, List.map_nil]); first | done | rfl | (simp only [List.length_drop, List.length_take]; rfl)) ?_
    with_reducible refine (spec_l01Below.calls g s0_0 t253 t254 (wrap64 ((t249.size : Int) + 1)) t255 t256 t257 w0 _ ?side1 ?side2 A12.out).mono ?_
    (case side1 => exact ii_ HI0)
    (case side2 => exact hj_ HB)
    rintro e w19 ⟨rfl, hi, hb, hk⟩
    refine ⟨_, rfl, ?_⟩
    have n0_ := Aside0.mk (Kd.R_mono (Kd.R_keep (IsS101.apart (show IsS101 w0 _ g s0_0 t253 t254 from ii_ HI0) HO_243000.out (by decide)) hk (fun _ h => h.2)) (fun _ h => h.1))
    have n1_ := Aside0.mk (KeepBut.blk hk (g' := gb241) (o := .cells #[.slice none 0 0] 29 (0, 0)) BK241.out NB241_0.out (by simp))
    have n2_ := Aside0.mk (KeepBut.blk hk (g' := gb242) (o := .cells #[u243000] 29 (0, 0)) BK242.out NB242_0.out (by simp))
    have n3_ := Aside0.mk (KeepBut.trans (kk_ HK) hk (.inl rfl))
    have n4_ := Aside0.mk (hb)
    have n5_ := Aside0.mk (hi)
    clear HO_243000 BK241 BK242 HK HB HI0
    have HO_243000 := n0_; have BK241 := n1_; have BK242 := n2_; have HK := n3_; have HB := n4_; have HI0 := n5_
    clear n0_ n1_ n2_ n3_ n4_ n5_
    (try clear hb); (try clear hb2); (try clear hk); (try clear hi)
    obtain ⟨Ao20, co20, eo20⟩ := Kd.R_slice HO_243000.out
    (first | subst eo20 | (injection eo20 with f1_ f2_ f3_; have f4_ := f1_.symm; have f5_ := f3_.symm; clear f1_ f2_ f3_; subst f4_; subst f5_))
    refine hK.out _ _ ((blk_cell BK242.out 0).trans rfl) (fun hHeld => ?_)
    clear hK K
    refine norm_ (a' := ?_) ?_ ?_
    rotate_left
    ·show Act.put _ (some 27) _ = _
     simp only [Act.put, List.setIfInBounds_toArray, List.set_cons_zero, List.set_cons_succ, i64_w, i32_w]
     rfl
    refine pure_ (i := 9) (N := some 28) (v := ?_) (a' := ?_) #[true, true, true, true, true, true, true, true, true, true, false, false] rfl rfl (any_of HT_.out (by kernel_rfl)) (fun _ _ _ h => h) (Or.inl ⟨by rfl, ?_⟩) ?_ ?_
    rotate_left
    ·intro w'
     go_simp
     with_reducible rfl
    rotate_left
    ·simp only [Act.put, List.setIfInBounds_toArray, List.set_cons_zero, List.set_cons_succ, i64_w, i32_w]
     rfl
    refine one_ (i := 10) (N := some 29) #[true, true, true, true, true, true, true, true, true, true, true, false] rfl rfl (one_of HT_.out (by kernel_rfl)) (by decide) (fun K hK => ?_)
    refine goes_ Try.func55 (by kernel_rfl) rfl #[.agg #[.slice Ao20 x243000_1.length co20], .agg #[.string t252, .string t249, .int .i64 t255]] (by rfl) rfl rfl (by (try simp only [List.map_toArray, List.map_cons, List.map_nil]); first | done | rfl | (simp only [List.length_drop, List.length_take]; rfl)) ?_
    with_reducible refine (spec_l03Put.calls _ _ x243000_1 t252 t249 t255 t258 _ ?side1 ?side2 A13.out).mono ?_
    (case side1 => repeat (first | exact (Kd.R_reads' HO_243000.out).2.2 | (with_reducible refine Kd.C_alloc ?_ _) | (with_reducible refine Kd.C_drewN ?_ _) | (with_reducible refine Kd.C_drew ?_)))
    (case side2 => exact (Kd.R_reads' HO_243000.out).2.1)
    rintro e w21 ⟨v259, rfl, ho0, hb⟩
    refine ⟨_, rfl, ?_⟩
    have n0_ := Aside0.mk (Kd.R_elder' HO_243000.out (Kd.R_base ho0) hb)
    have n1_ := Aside0.mk (Kd.R_lower (Kd.R_new' ho0 (Kd.R_lt HO_243000.out)) (keep_size (w := w) (g := g) (row := none) (kk_ HK)))
    have n2_ := Aside0.mk (blk_below BK241.out hb)
    have n3_ := Aside0.mk (blk_below BK242.out hb)
    have n4_ := Aside0.mk (IsS101.below (ii_ HI0) hb)
    have n5_ := Aside0.mk (KeepBut.trans (kk_ HK) (KeepBut.of_below hb g none) (.inl rfl))
    have n6_ := Aside0.mk (below_step (hj_ HB) hb)
    clear HO_243000 BK241 BK242 HI0 HK HB
    have HO_243000 := n0_; have HO260 := n1_; have BK241 := n2_; have BK242 := n3_; have HI0 := n4_; have HK := n5_; have HB := n6_
    clear n0_ n1_ n2_ n3_ n4_ n5_ n6_
    (try clear hb); (try clear hb2); (try clear hk); (try clear hi); (try clear ho0)
    obtain ⟨Ao22, co22, eo22⟩ := Kd.R_slice HO260.out
    (first | subst eo22 | (injection eo22 with f1_ f2_ f3_; have f4_ := f1_.symm; have f5_ := f3_.symm; clear f1_ f2_ f3_; subst f4_; subst f5_))
    refine hK.out _ _ ((blk_cell BK242.out 0).trans rfl) (fun hHeld => ?_)
    clear hK K
    refine norm_ (a' := ?_) ?_ ?_
    rotate_left
    ·show Act.put _ (some 29) _ = _
     simp only [Act.put, List.setIfInBounds_toArray, List.set_cons_zero, List.set_cons_succ, i64_w, i32_w]
     rfl
    refine last_ (i := 11) (N := none) #[true, true, true, true, true, true, true, true, true, true, true, true] rfl rfl (one_of HT_.out (by kernel_rfl)) (by decide) (fun K hK => ?_)
    have hs23 : w21.cell? ⟨gb242, 0, none⟩ = some (.slice Ao20 x243000_1.length co20) := (blk_cell BK242.out 0).trans rfl
    have hfs23 := blk_frozen BK242.out 0
    have hns23_0 := NB241_242.out; have hms23_0 := NB242_241.out
    refine skip_ (w1 := ?_) (by rfl) rfl ?_ ?_
    rotate_left
    ·go_simp
     rfl
    refine hK.out _ _ ?_
    clear hK K
    refine done_ (done_of HT_.out (by kernel_rfl)) ?_
    try go_wp2
    go_roundg k1
    case measure => have := HK1.out; omega
    case rel => exact ⟨(wrap64 (x4_1 + 1)), (t256), (t257), (t258), (.slice Ao22 t258.length co22), (by first | rfl | (simp; done) | (simp [*]; done)), H', ⟨by have := HK1.out; omega⟩, ⟨by (with_reducible repeat (first | apply Kd.R_alloc | apply Kd.R_drewN | apply Kd.R_drew)); exact Kd.R_mono (Kd.R_far (p := ⟨gb242, 0, none⟩) (Kd.R_types HO260.out BK242.out (by decide)) (fun _ hk => hk.2) (.slice Ao22 t258.length co22)) (fun _ hk => trivial)⟩, ⟨by (with_reducible repeat (first | refine blk_drewN ?_ _ | refine blk_drew ?_ | refine blk_alloc ?_ _)); refine blk_far ?_ NB241_242.out _; exact bb_ BK241⟩, ⟨by (with_reducible repeat (first | refine blk_drewN ?_ _ | refine blk_drew ?_ | refine blk_alloc ?_ _)); refine blk_put (cs := #[.slice Ao20 x243000_1.length co20]) ?_ 0 _ rfl; exact bb_ BK242⟩, ⟨ii_ HI0⟩, ⟨kk_ HK⟩, ⟨hj_ HB⟩⟩
   ·rw [if_neg c8] at H
    have c8b0 : decide (x4_1 < t243) = false := decide_eq_false c8
    clear c8
    by_cases c24 : (x243000_1.length : Int) = 0
    ·rw [if_pos c24] at H
     have c24b0 : ((x243000_1.length : Int) == 0) = true := beq_iff_eq.mpr c24
     have c24b1 : ((x243000_1.length : Int) != 0) = false := bne_eq_false_iff_eq.mpr c24
     clear c24
     simp only [Option.some.injEq, Prod.mk.injEq] at H
     obtain ⟨rfl, rfl, rfl⟩ := H
     go_wp2_with (first | ((with_reducible refine gate_callee (f := 65) rfl ?_); refine goesL_ (some 11) rfl rfl Try.func65 (by kernel_rfl) rfl #[.pointer (some ⟨g, 0, none⟩), .int .i64 6] rfl (by (try simp only [List.map_toArray, List.map_cons, List.map_nil]); first | done | rfl | (simp only [List.length_drop, List.length_take]; rfl)) ?_; (with_reducible refine (spec_l01Below.calls g s0_0 x1001_1 x1002_1 6 t243 t244 t245 w0 _ ?side1 ?side2 A7.out).mono ?_); (case side1 => exact ii_ HI0); (case side2 => exact hj_ HB); rintro e w25 ⟨rfl, hi, hb, hk⟩; refine ⟨_, rfl, ?_⟩; have n0_ := Aside0.mk (Kd.R_mono (Kd.R_keep (IsS101.apart (show IsS101 w0 _ g s0_0 x1001_1 x1002_1 from ii_ HI0) (rr_ HO_243000) (by decide)) hk (fun _ h => h.2)) (fun _ h => h.1)); have n1_ := Aside0.mk (KeepBut.blk hk (g' := gb241) (o := .cells #[.slice none 0 0] 29 (0, 0)) (bb_ BK241) NB241_0.out (by simp)); have n2_ := Aside0.mk (KeepBut.blk hk (g' := gb242) (o := .cells #[u243000] 29 (0, 0)) (bb_ BK242) NB242_0.out (by simp)); have n3_ := Aside0.mk (KeepBut.trans (kk_ HK) hk (.inl rfl)); have n4_ := Aside0.mk (hb); have n5_ := Aside0.mk (hi); clear HO_243000 BK241 BK242 HK HB HI0; have HO_243000 := n0_; have BK241 := n1_; have BK242 := n2_; have HK := n3_; have HB := n4_; have HI0 := n5_; clear n0_ n1_ n2_ n3_ n4_ n5_; (try clear hb); (try clear hb2); (try clear hk); (try clear hi); have hnb26 := NB242_241.out; have hnc26 := NB241_242.out; have hnb27 := NB242_0.out; have hnc27 := NB0_242.out; have hcz28_0 : w25.cell? ⟨gb242, 0, none⟩ = some (u243000) := (blk_cell BK242.out 0).trans rfl; have hfz28_0 := blk_frozen BK242.out 0; obtain ⟨Ao29, co29, eo29⟩ := Kd.R_slice HO_243000.out; subst eo29; have hnb30 := NB241_0.out; have hnc30 := NB0_241.out; have hcz31_0 : w25.cell? ⟨gb241, 0, none⟩ = some (.slice none 0 0) := (blk_cell BK241.out 0).trans rfl; have hfz31_0 := blk_frozen BK241.out 0))
     refine bodyPost_ret (results_cell_row rfl _ _ gb241 29 #[.slice Ao29 x243000_1.length co29] (0, 0) _ rfl (by (with_reducible repeat (first | refine blk_drewN ?_ _ | refine blk_drew ?_ | refine blk_alloc ?_ _)); refine blk_put (cs := #[.slice none 0 0]) ?_ 0 _ rfl; exact bb_ BK241) Try.underlying29 rfl (by kernel_rfl)) rfl ?_
     exact ⟨_, by first | rfl | (simp [errW_none, errW_some] <;> rfl) | (simp [*, errW_none, errW_some] <;> rfl), by (with_reducible repeat (first | apply Kd.R_alloc | apply Kd.R_drewN | apply Kd.R_drew)); exact Kd.R_mono (Kd.R_far (p := ⟨gb241, 0, none⟩) (Kd.R_types HO_243000.out BK241.out (by decide)) (fun _ hk => hk.2) (.slice Ao29 x243000_1.length co29)) (fun _ hk => trivial), by repeat (first | (with_reducible first | exact HI0.out | apply IsS101.alloc | apply IsS101.drewN | apply IsS101.drew | apply IsS101.set_1 | apply IsS101.set_2 | refine IsS101.far ?_ NB0_241.out _ | refine IsS101.far ?_ NB0_242.out _) | exact HI0.out), by repeat (first | (with_reducible first | exact HB.out | apply below_alloc | apply pw_below_drewN | apply below_drew1 | refine below_set ?_ (IsS101.ge HI0.out) | refine below_set ?_ GE241.out | refine below_set ?_ GE242.out) | exact HB.out), by repeat (first | (with_reducible first | exact HK.out | apply KeepBut.set_ | apply keep_drewN | apply keep_drew | apply keep_alloc | refine keep_far ?_ GW241.out _ | refine keep_far ?_ GW242.out _) | exact HK.out)⟩
    ·rw [if_neg c24] at H
     have c24b0 : ((x243000_1.length : Int) == 0) = false := beq_eq_false_iff_ne.mpr c24
     have c24b1 : ((x243000_1.length : Int) != 0) = true := bne_iff_ne.mpr c24
     have c24b2 : ¬ (x243000_1 = []) := fun h_ => c24 (by rw [h_]; rfl)
     replace H := Option.bind_eq_some_iff.mp H
     obtain ⟨⟨t261, t262, t263⟩, A320, H⟩ := H
     replace H : ((spec_l01Below.f s0_0 t262 t263 40).bind fun bt264 => (if bt264.1 = 0 then (if 0 ≤ t261 then (if t261 < (x243000_1.length : Int) then ((spec_l01PickInt.f s0_0 bt264.2.1 bt264.2.2 (([(-1), wrap64 ((((rd_T67 x243000_1 t261).f1).size : Int) + 1)] : List Int))).bind fun bt271 => (some ((x243000_1.set (t261 : Int).toNat (⟨(rd_T67 x243000_1 t261).f0, (rd_T67 x243000_1 t261).f1, bt271.1⟩ : S67)), bt271.2.1, bt271.2.2))) else (none)) else (none)) else (if bt264.1 = 1 then (if 0 ≤ t261 then (if t261 < (x243000_1.length : Int) then (if x243000_1.length < 3518437208883 then (some ((x243000_1 ++ [(⟨(rd_T67 x243000_1 t261).f0, (rd_T67 x243000_1 t261).f1, (rd_T67 x243000_1 t261).f2⟩ : S67)]), bt264.2.1, bt264.2.2)) else (none)) else (none)) else (none)) else (if bt264.1 = 2 then ((spec_l01Pick.f s0_0 bt264.2.1 bt264.2.2 (([(⟨#[]⟩ : ByteArray), (⟨#[49, 50, 51, 52, 53, 54, 55, 56]⟩ : ByteArray), (⟨#[49, 50, 51, 52, 53, 54, 55, 56, 57]⟩ : ByteArray)] : List ByteArray))).bind fun bt282 => (if 0 ≤ t261 then (if t261 < (x243000_1.length : Int) then (some ((x243000_1.set (t261 : Int).toNat (⟨bt282.1, (rd_T67 x243000_1 t261).f1, (rd_T67 x243000_1 t261).f2⟩ : S67)), bt282.2.1, bt282.2.2)) else (none)) else (none))) else (if bt264.1 = 3 then (spec_l03Disk.l1 k1 0 s0_0 bt264.2.1 bt264.2.2 (([] : List (S67)))) else (if bt264.1 = 4 then ((spec_l01Below.f s0_0 bt264.2.1 bt264.2.2 3).bind fun bt296 => ((spec_l01Long.f k1 (wrap64 (19999 + bt296.1)) 65).bind fun t299 => (if 0 ≤ t261 then (if t261 < (x243000_1.length : Int) then (some ((x243000_1.set (t261 : Int).toNat (⟨(rd_T67 x243000_1 t261).f0, t299, (rd_T67 x243000_1 t261).f2⟩ : S67)), bt296.2.1, bt296.2.2)) else (none)) else (none)))) else (some (x243000_1, bt264.2.1, bt264.2.2)))))))) = some (r1, r2, r3) := H
     have A32 := Aside0.mk A320
     clear A320
     replace H := Option.bind_eq_some_iff.mp H
     obtain ⟨⟨t264, t265, t266⟩, A330, H⟩ := H
     replace H : (if t264 = 0 then (if 0 ≤ t261 then (if t261 < (x243000_1.length : Int) then ((spec_l01PickInt.f s0_0 t265 t266 (([(-1), wrap64 ((((rd_T67 x243000_1 t261).f1).size : Int) + 1)] : List Int))).bind fun bt271 => (some ((x243000_1.set (t261 : Int).toNat (⟨(rd_T67 x243000_1 t261).f0, (rd_T67 x243000_1 t261).f1, bt271.1⟩ : S67)), bt271.2.1, bt271.2.2))) else (none)) else (none)) else (if t264 = 1 then (if 0 ≤ t261 then (if t261 < (x243000_1.length : Int) then (if x243000_1.length < 3518437208883 then (some ((x243000_1 ++ [(⟨(rd_T67 x243000_1 t261).f0, (rd_T67 x243000_1 t261).f1, (rd_T67 x243000_1 t261).f2⟩ : S67)]), t265, t266)) else (none)) else (none)) else (none)) else (if t264 = 2 then ((spec_l01Pick.f s0_0 t265 t266 (([(⟨#[]⟩ : ByteArray), (⟨#[49, 50, 51, 52, 53, 54, 55, 56]⟩ : ByteArray), (⟨#[49, 50, 51, 52, 53, 54, 55, 56, 57]⟩ : ByteArray)] : List ByteArray))).bind fun bt282 => (if 0 ≤ t261 then (if t261 < (x243000_1.length : Int) then (some ((x243000_1.set (t261 : Int).toNat (⟨bt282.1, (rd_T67 x243000_1 t261).f1, (rd_T67 x243000_1 t261).f2⟩ : S67)), bt282.2.1, bt282.2.2)) else (none)) else (none))) else (if t264 = 3 then (spec_l03Disk.l1 k1 0 s0_0 t265 t266 (([] : List (S67)))) else (if t264 = 4 then ((spec_l01Below.f s0_0 t265 t266 3).bind fun bt296 => ((spec_l01Long.f k1 (wrap64 (19999 + bt296.1)) 65).bind fun t299 => (if 0 ≤ t261 then (if t261 < (x243000_1.length : Int) then (some ((x243000_1.set (t261 : Int).toNat (⟨(rd_T67 x243000_1 t261).f0, t299, (rd_T67 x243000_1 t261).f2⟩ : S67)), bt296.2.1, bt296.2.2)) else (none)) else (none)))) else (some (x243000_1, t265, t266))))))) = some (r1, r2, r3) := H
     have A33 := Aside0.mk A330
     clear A330
     by_cases c34 : t264 = 0
     ·rw [if_pos c34] at H
      have c34b0 : (t264 == 0) = true := beq_iff_eq.mpr c34
      have c34b1 : (t264 != 0) = false := bne_eq_false_iff_eq.mpr c34
      clear c34
      by_cases c35 : 0 ≤ t261
      ·rw [if_pos c35] at H
       have c35b0 : decide (0 ≤ t261) = true := decide_eq_true c35
       clear c35
       by_cases c36 : t261 < (x243000_1.length : Int)
       ·rw [if_pos c36] at H
        have c36b0 : decide (t261 < (x243000_1.length : Int)) = true := decide_eq_true c36
        clear c36
        obtain ⟨y268, hy268⟩ : ∃ y_ : List Int, y_ = (([(-1), wrap64 ((((rd_T67 x243000_1 t261).f1).size : Int) + 1)] : List Int)) := ⟨_, rfl⟩
        replace H : ((spec_l01PickInt.f s0_0 t265 t266 y268).bind fun bt271 => (some ((x243000_1.set (t261 : Int).toNat (⟨(rd_T67 x243000_1 t261).f0, (rd_T67 x243000_1 t261).f1, bt271.1⟩ : S67)), bt271.2.1, bt271.2.2))) = some (r1, r2, r3) := by first | (rw [hy268]; with_reducible exact H) | (have H2_ := (Option.bind_some _ _).symm.trans H; rw [hy268]; with_reducible exact H2_) | (have H2_ := (Option.bind_some _ _).symm.trans H; with_reducible exact H2_) | with_reducible exact H | (rw [hy268]; exact H) | exact H
        have Ny268 := Aside0.mk hy268
        clear hy268
        replace H := Option.bind_eq_some_iff.mp H
        obtain ⟨⟨t271, t272, t273⟩, A370, H⟩ := H
        replace H : (some ((x243000_1.set (t261 : Int).toNat (⟨(rd_T67 x243000_1 t261).f0, (rd_T67 x243000_1 t261).f1, t271⟩ : S67)), t272, t273)) = some (r1, r2, r3) := H
        have A37 := Aside0.mk A370
        clear A370
        obtain ⟨y274, hy274⟩ : ∃ y_ : List (S67), y_ = (x243000_1.set (t261 : Int).toNat (⟨(rd_T67 x243000_1 t261).f0, (rd_T67 x243000_1 t261).f1, t271⟩ : S67)) := ⟨_, rfl⟩
        replace H : (some (y274, t272, t273)) = some (r1, r2, r3) := by first | (rw [hy274]; with_reducible exact H) | (have H2_ := (Option.bind_some _ _).symm.trans H; rw [hy274]; with_reducible exact H2_) | (have H2_ := (Option.bind_some _ _).symm.trans H; with_reducible exact H2_) | with_reducible exact H | (rw [hy274]; exact H) | exact H
        have Ny274 := Aside0.mk hy274
        clear hy274
        simp only [Option.some.injEq, Prod.mk.injEq] at H
        obtain ⟨rfl, rfl, rfl⟩ := H
        try go_wp2_with (first | ((with_reducible refine gate_callee (f := 65) rfl ?_); refine goesL_ (some 11) rfl rfl Try.func65 (by kernel_rfl) rfl #[.pointer (some ⟨g, 0, none⟩), .int .i64 6] rfl (by (try simp only [List.map_toArray, List.map_cons, List.map_nil]); first | done | rfl | (simp only [List.length_drop, List.length_take]; rfl)) ?_; (with_reducible refine (spec_l01Below.calls g s0_0 x1001_1 x1002_1 6 t243 t244 t245 w0 _ ?side1 ?side2 A7.out).mono ?_); (case side1 => exact ii_ HI0); (case side2 => exact hj_ HB); rintro e w39 ⟨rfl, hi, hb, hk⟩; refine ⟨_, rfl, ?_⟩; have n0_ := Aside0.mk (Kd.R_mono (Kd.R_keep (IsS101.apart (show IsS101 w0 _ g s0_0 x1001_1 x1002_1 from ii_ HI0) (rr_ HO_243000) (by decide)) hk (fun _ h => h.2)) (fun _ h => h.1)); have n1_ := Aside0.mk (KeepBut.blk hk (g' := gb241) (o := .cells #[.slice none 0 0] 29 (0, 0)) (bb_ BK241) NB241_0.out (by simp)); have n2_ := Aside0.mk (KeepBut.blk hk (g' := gb242) (o := .cells #[u243000] 29 (0, 0)) (bb_ BK242) NB242_0.out (by simp)); have n3_ := Aside0.mk (KeepBut.trans (kk_ HK) hk (.inl rfl)); have n4_ := Aside0.mk (hb); have n5_ := Aside0.mk (hi); clear HO_243000 BK241 BK242 HK HB HI0; have HO_243000 := n0_; have BK241 := n1_; have BK242 := n2_; have HK := n3_; have HB := n4_; have HI0 := n5_; clear n0_ n1_ n2_ n3_ n4_ n5_; (try clear hb); (try clear hb2); (try clear hk); (try clear hi); have hnb40 := NB242_241.out; have hnc40 := NB241_242.out; have hnb41 := NB242_0.out; have hnc41 := NB0_242.out; have hcz42_0 : w39.cell? ⟨gb242, 0, none⟩ = some (u243000) := (blk_cell BK242.out 0).trans rfl; have hfz42_0 := blk_frozen BK242.out 0; obtain ⟨Ao43, co43, eo43⟩ := Kd.R_slice HO_243000.out; subst eo43) | ((with_reducible refine gate_callee (f := 65) rfl ?_); refine goesL_ (some 39) rfl rfl Try.func65 (by kernel_rfl) rfl #[.pointer (some ⟨g, 0, none⟩), .int .i64 (x243000_1.length : Int)] rfl (by (try simp only [List.map_toArray, List.map_cons, List.map_nil]); first | done | rfl | (simp only [List.length_drop, List.length_take]; rfl)) ?_; (with_reducible refine (spec_l01Below.calls g s0_0 t244 t245 (x243000_1.length : Int) t261 t262 t263 w0 _ ?side1 ?side2 A32.out).mono ?_); (case side1 => exact ii_ HI0); (case side2 => exact hj_ HB); rintro e w44 ⟨rfl, hi, hb, hk⟩; refine ⟨_, rfl, ?_⟩; have n0_ := Aside0.mk (Kd.R_mono (Kd.R_keep (IsS101.apart (show IsS101 w0 _ g s0_0 t244 t245 from ii_ HI0) (rr_ HO_243000) (by decide)) hk (fun _ h => h.2)) (fun _ h => h.1)); have n1_ := Aside0.mk (KeepBut.blk hk (g' := gb241) (o := .cells #[.slice none 0 0] 29 (0, 0)) (bb_ BK241) NB241_0.out (by simp)); have n2_ := Aside0.mk (KeepBut.blk hk (g' := gb242) (o := .cells #[.slice Ao43 x243000_1.length co43] 29 (0, 0)) (bb_ BK242) NB242_0.out (by simp)); have n3_ := Aside0.mk (KeepBut.trans (kk_ HK) hk (.inl rfl)); have n4_ := Aside0.mk (hb); have n5_ := Aside0.mk (hi); clear HO_243000 BK241 BK242 HK HB HI0; have HO_243000 := n0_; have BK241 := n1_; have BK242 := n2_; have HK := n3_; have HB := n4_; have HI0 := n5_; clear n0_ n1_ n2_ n3_ n4_ n5_; (try clear hb); (try clear hb2); (try clear hk); (try clear hi)) | ((with_reducible refine gate_callee (f := 65) rfl ?_); refine goesL_ (some 41) rfl rfl Try.func65 (by kernel_rfl) rfl #[.pointer (some ⟨g, 0, none⟩), .int .i64 40] rfl (by (try simp only [List.map_toArray, List.map_cons, List.map_nil]); first | done | rfl | (simp only [List.length_drop, List.length_take]; rfl)) ?_; (with_reducible refine (spec_l01Below.calls g s0_0 t262 t263 40 t264 t265 t266 w0 _ ?side1 ?side2 A33.out).mono ?_); (case side1 => exact ii_ HI0); (case side2 => exact hj_ HB); rintro e w45 ⟨rfl, hi, hb, hk⟩; refine ⟨_, rfl, ?_⟩; have n0_ := Aside0.mk (Kd.R_mono (Kd.R_keep (IsS101.apart (show IsS101 w0 _ g s0_0 t262 t263 from ii_ HI0) (rr_ HO_243000) (by decide)) hk (fun _ h => h.2)) (fun _ h => h.1)); have n1_ := Aside0.mk (KeepBut.blk hk (g' := gb241) (o := .cells #[.slice none 0 0] 29 (0, 0)) (bb_ BK241) NB241_0.out (by simp)); have n2_ := Aside0.mk (KeepBut.blk hk (g' := gb242) (o := .cells #[.slice Ao43 x243000_1.length co43] 29 (0, 0)) (bb_ BK242) NB242_0.out (by simp)); have n3_ := Aside0.mk (KeepBut.trans (kk_ HK) hk (.inl rfl)); have n4_ := Aside0.mk (hb); have n5_ := Aside0.mk (hi); clear HO_243000 BK241 BK242 HK HB HI0; have HO_243000 := n0_; have BK241 := n1_; have BK242 := n2_; have HK := n3_; have HB := n4_; have HI0 := n5_; clear n0_ n1_ n2_ n3_ n4_ n5_; (try clear hb); (try clear hb2); (try clear hk); (try clear hi)))
        have n0_ := Aside0.mk (Kd.R_drew HO_243000.out)
        have n1_ := Aside0.mk (blk_drew BK241.out)
        have n2_ := Aside0.mk (blk_drew BK242.out)
        have n3_ := Aside0.mk (IsS101.drew HI0.out)
        have n4_ := Aside0.mk (keep_drew HK.out)
        have n5_ := Aside0.mk (below_drew1 HB.out)
        clear HO_243000 BK241 BK242 HI0 HK HB
        have HO_243000 := n0_; have BK241 := n1_; have BK242 := n2_; have HI0 := n3_; have HK := n4_; have HB := n5_
        clear n0_ n1_ n2_ n3_ n4_ n5_
        have p267 : 0 ≤ (t261 : Int) := of_decide_eq_true (by first | (with_reducible assumption) | assumption)
        have q267 : t261 < (x243000_1.length : Int) := of_decide_eq_true (by first | (with_reducible assumption) | assumption)
        obtain ⟨ad267, e267, hx267_0, hx267_1, hx267_2⟩ := at_T67 (Kd.R_reads' HO_243000.out).2.2 t261 p267 q267
        cases e267
        replace p267 := eq_true p267
        replace q267 := eq_true q267
        refine start_ (n := 17) (S := fun w' => w'.cell? ⟨gb242, 0, none⟩ = some (.slice (some ad267) x243000_1.length co43) ∧ w'.cell? (ad267.add ((t261).toNat * 3)) = some (.string ((rd_T67 x243000_1 t261).f0)) ∧ w'.cell? ⟨(ad267.add ((t261).toNat * 3)).block, (ad267.add ((t261).toNat * 3)).off + 1, none⟩ = some (.string ((rd_T67 x243000_1 t261).f1)) ∧ w'.cell? ⟨(ad267.add ((t261).toNat * 3)).block, (ad267.add ((t261).toNat * 3)).off + 2, none⟩ = some (.int .i64 ((rd_T67 x243000_1 t261).f2))) (ds := [16]) #[false, false, false, false, false, false, false, false, false, false, false, false, false, false, false, false, false] (by kernel_rfl) rfl rfl ⟨(blk_cell BK242.out 0).trans rfl, hx267_0, hx267_1, hx267_2⟩ (fun hHeld => ?_); refine with_tabW spec_l03Disk.tab12 spec_l03Disk.bits12 (fun HT_ HW_ => ?_)
        generalize w45.drew = w46 at HO_243000 BK241 BK242 HI0 HK HB hx267_0 hx267_1 hx267_2 hHeld ⊢
        refine pure_ (i := 0) (N := some 44) (v := ?_) (a' := ?_) #[true, false, false, false, false, false, false, false, false, false, false, false, false, false, false, false, false] rfl rfl (any_of HT_.out (by kernel_rfl)) (fun _ _ _ h => h) (Or.inl ⟨by rfl, ?_⟩) ?_ ?_
        rotate_left
        ·intro w'
         go_simp
         with_reducible rfl
        rotate_left
        ·simp only [Act.put, List.setIfInBounds_toArray, List.set_cons_zero, List.set_cons_succ, i64_w, i32_w]
         rfl
        refine pure_ (i := 2) (N := some 46) (v := ?_) (a' := ?_) #[true, false, true, false, false, false, false, false, false, false, false, false, false, false, false, false, false] rfl rfl (any_of HT_.out (by kernel_rfl)) (fun _ _ _ h => h) (Or.inl ⟨by rfl, ?_⟩) ?_ ?_
        rotate_left
        ·intro w'
         go_simp
         with_reducible rfl
        rotate_left
        ·simp only [Act.put, List.setIfInBounds_toArray, List.set_cons_zero, List.set_cons_succ, i64_w, i32_w]
         rfl
        refine pure_ (i := 3) (N := some 47) (v := ?_) (a' := ?_) #[true, false, true, true, false, false, false, false, false, false, false, false, false, false, false, false, false] rfl rfl (any_of HT_.out (by kernel_rfl)) (fun _ _ _ h => h) (Or.inl ⟨by rfl, ?_⟩) ?_ ?_
        rotate_left
        ·intro w'
         go_simp
         with_reducible rfl
        rotate_left
        ·simp only [Act.put, List.setIfInBounds_toArray, List.set_cons_zero, List.set_cons_succ, i64_w, i32_w]
         rfl
        refine pure_ (i := 4) (N := some 48) (v := ?_) (a' := ?_) #[true, false, true, true, true, false, false, false, false, false, false, false, false, false, false, false, false] rfl rfl (any_of HT_.out (by kernel_rfl)) (fun _ _ _ h => h) (Or.inl ⟨by rfl, ?_⟩) ?_ ?_
        rotate_left
        ·intro w'
         go_simp
         with_reducible rfl
        rotate_left
        ·simp only [Act.put, List.setIfInBounds_toArray, List.set_cons_zero, List.set_cons_succ, i64_w, i32_w]
         rfl
        refine pure_ (i := 6) (N := some 50) (v := ?_) (a' := ?_) #[true, false, true, true, true, false, true, false, false, false, false, false, false, false, false, false, false] rfl rfl (any_of HT_.out (by kernel_rfl)) (fun _ _ _ h => h) (Or.inl ⟨by rfl, ?_⟩) ?_ ?_
        rotate_left
        ·intro w'
         go_simp
         with_reducible rfl
        rotate_left
        ·simp only [Act.put, List.setIfInBounds_toArray, List.set_cons_zero, List.set_cons_succ, i64_w, i32_w]
         rfl
        refine take_ (i := 1) (N := some 45) (v := ?_) (a' := ?_) #[true, true, true, true, true, false, true, false, false, false, false, false, false, false, false, false, false] rfl rfl (take_ofW HT_.out HW_.out (by kernel_rfl)) (fun _ _ _ h => h) (Or.inl ⟨by rfl, ?_⟩) hHeld ?_ ?_
        rotate_left
        ·rintro w' ⟨s0, s1, s2, s3⟩
         go_simp
         with_reducible rfl
        rotate_left
        ·simp only [Act.put, List.setIfInBounds_toArray, List.set_cons_zero, List.set_cons_succ, i64_w, i32_w]
         rfl
        refine take_ (i := 5) (N := some 49) (v := ?_) (a' := ?_) #[true, true, true, true, true, true, true, false, false, false, false, false, false, false, false, false, false] rfl rfl (take_ofW HT_.out HW_.out (by kernel_rfl)) (fun _ _ _ h => h) (Or.inl ⟨by rfl, ?_⟩) hHeld ?_ ?_
        rotate_left
        ·rintro w' ⟨s0, s1, s2, s3⟩
         go_simp
         with_reducible rfl
        rotate_left
        ·simp only [Act.put, List.setIfInBounds_toArray, List.set_cons_zero, List.set_cons_succ, i64_w, i32_w]
         rfl
        refine pure_ (i := 7) (N := some 51) (v := ?_) (a' := ?_) #[true, true, true, true, true, true, true, true, false, false, false, false, false, false, false, false, false] rfl rfl (any_of HT_.out (by kernel_rfl)) (fun _ _ _ h => h) (Or.inl ⟨by rfl, ?_⟩) ?_ ?_
        rotate_left
        ·intro w'
         go_simp
         with_reducible rfl
        rotate_left
        ·simp only [Act.put, List.setIfInBounds_toArray, List.set_cons_zero, List.set_cons_succ, i64_w, i32_w]
         rfl
        refine pure_ (i := 8) (N := some 52) (v := ?_) (a' := ?_) #[true, true, true, true, true, true, true, true, true, false, false, false, false, false, false, false, false] rfl rfl (any_of HT_.out (by kernel_rfl)) (fun _ _ _ h => h) (Or.inl ⟨by rfl, ?_⟩) ?_ ?_
        rotate_left
        ·intro w'
         go_simp
         with_reducible rfl
        rotate_left
        ·simp only [Act.put, List.setIfInBounds_toArray, List.set_cons_zero, List.set_cons_succ, i64_w, i32_w]
         rfl
        refine take_ (i := 9) (N := some 53) (v := ?_) (a' := ?_) #[true, true, true, true, true, true, true, true, true, true, false, false, false, false, false, false, false] rfl rfl (take_ofW HT_.out HW_.out (by kernel_rfl)) (fun _ _ _ h => h) (Or.inl ⟨by rfl, ?_⟩) hHeld ?_ ?_
        rotate_left
        ·rintro w' ⟨s0, s1, s2, s3⟩
         go_simp
         with_reducible rfl
        rotate_left
        ·simp only [Act.put, List.setIfInBounds_toArray, List.set_cons_zero, List.set_cons_succ, i64_w, i32_w]
         rfl
        refine pure_ (i := 10) (N := some 54) (v := ?_) (a' := ?_) #[true, true, true, true, true, true, true, true, true, true, true, false, false, false, false, false, false] rfl rfl (any_of HT_.out (by kernel_rfl)) (fun _ _ _ h => h) (Or.inl ⟨by rfl, ?_⟩) ?_ ?_
        rotate_left
        ·intro w'
         go_simp
         with_reducible rfl
        rotate_left
        ·simp only [Act.put, List.setIfInBounds_toArray, List.set_cons_zero, List.set_cons_succ, i64_w, i32_w]
         rfl
        refine pure_ (i := 11) (N := some 55) (v := ?_) (a' := ?_) #[true, true, true, true, true, true, true, true, true, true, true, true, false, false, false, false, false] rfl rfl (any_of HT_.out (by kernel_rfl)) (fun _ _ _ h => h) (Or.inl ⟨by rfl, ?_⟩) ?_ ?_
        rotate_left
        ·intro w'
         go_simp
         with_reducible rfl
        rotate_left
        ·simp only [Act.put, List.setIfInBounds_toArray, List.set_cons_zero, List.set_cons_succ, i64_w, i32_w]
         rfl
        refine one_ (i := 12) (N := some 56) #[true, true, true, true, true, true, true, true, true, true, true, true, true, false, false, false, false] rfl rfl (one_of HT_.out (by kernel_rfl)) (by decide) (fun K hK => ?_)
        refine Kd.R_lit_step (Kd.int .i64) _ 3 ?hg (N := 56) ?hd (xs := ([(-1), wrap64 ((((rd_T67 x243000_1 t261).f1).size : Int) + 1)] : List Int)) (inner := [.int .i64 (-1), .int .i64 (wrap64 ((((rd_T67 x243000_1 t261).f1).size : Int) + 1))]) (ok := fun _ => True) (okp := fun _ => True) ?hr ?hp (fun _ hk => hk) trivial (Below.refl _ _) (Nat.le_refl _) (by simp) ?_; (case hd => rfl); (case hg => rfl); (case hr => first | (go_simp; done) | (go_simp; rfl)); (case hp => exact (Reps.one (show Kd.M (Kd.int .i64) _ _ _ (-1) [.int .i64 (-1)] from rfl) (Reps.one (show Kd.M (Kd.int .i64) _ _ _ (wrap64 ((((rd_T67 x243000_1 t261).f1).size : Int) + 1)) [.int .i64 (wrap64 ((((rd_T67 x243000_1 t261).f1).size : Int) + 1))] from rfl) (Reps.none _ _))))
        intro v269 w47 ho48 hb hg_ hnew_
        have HS1_ := (hb.cell (World.block_lt_of_cell? _ _ (hHeld.2.1))).trans (hHeld.2.1)
        have HS2_ := (hb.cell (World.block_lt_of_cell? _ _ (hHeld.2.2.1))).trans (hHeld.2.2.1)
        have HS3_ := (hb.cell (World.block_lt_of_cell? _ _ (hHeld.2.2.2))).trans (hHeld.2.2.2)
        clear hg_ hnew_
        (first | rw [← Ny268.out] at ho48 | (simp only [Int.reduceToNat] at ho48; rw [← Ny268.out] at ho48))
        have n0_ := Aside0.mk (Kd.R_below HO_243000.out hb)
        have n1_ := Aside0.mk (Kd.R_lower ho48 (keep_size (w := w) (g := g) (row := none) (kk_ HK)))
        have n2_ := Aside0.mk (blk_below BK241.out hb)
        have n3_ := Aside0.mk (blk_below BK242.out hb)
        have n4_ := Aside0.mk (IsS101.below (ii_ HI0) hb)
        have n5_ := Aside0.mk (KeepBut.trans (kk_ HK) (KeepBut.of_below hb g none) (.inl rfl))
        have n6_ := Aside0.mk (below_step (hj_ HB) hb)
        clear HO_243000 BK241 BK242 HI0 HK HB
        have HO_243000 := n0_; have HO270 := n1_; have BK241 := n2_; have BK242 := n3_; have HI0 := n4_; have HK := n5_; have HB := n6_
        clear n0_ n1_ n2_ n3_ n4_ n5_ n6_ hb ho48
        obtain ⟨Ao49, co49, eo49⟩ := Kd.R_slice HO270.out
        (first | subst eo49 | (injection eo49 with f1_ f2_ f3_; have f4_ := f1_.symm; have f5_ := f3_.symm; clear f1_ f2_ f3_; subst f4_; subst f5_))
        refine hK.out _ _ ⟨(blk_cell BK242.out 0).trans rfl, HS1_, HS2_, HS3_⟩ (fun hHeld => ?_)
        clear hK K
        refine norm_ (a' := ?_) ?_ ?_
        rotate_left
        ·show Act.put _ (some 56) _ = _
         simp only [Act.put, List.setIfInBounds_toArray, List.set_cons_zero, List.set_cons_succ, i64_w, i32_w]
         rfl
        refine one_ (i := 13) (N := some 57) #[true, true, true, true, true, true, true, true, true, true, true, true, true, true, false, false, false] rfl rfl (one_of HT_.out (by kernel_rfl)) (by decide) (fun K hK => ?_)
        refine goes_ Try.func77 (by kernel_rfl) rfl #[.pointer (some ⟨g, 0, none⟩), .slice Ao49 y268.length co49] (by rfl) rfl rfl (by (try simp only [List.map_toArray, List.map_cons, List.map_nil]); first | done | rfl | (simp only [List.length_drop, List.length_take]; rfl)) ?_
        with_reducible refine (spec_l01PickInt.calls g s0_0 t265 t266 _ _ y268 t271 t272 t273 w0 _ ?side1 ?side2 ?side3 ?side4 ?side5 A37.out).mono ?_
        (case side1 => exact ii_ HI0)
        (case side2 => exact hj_ HB)
        (case side3 => repeat (first | exact (Kd.R_reads' HO270.out).2.2 | (with_reducible refine Kd.C_alloc ?_ _) | (with_reducible refine Kd.C_drewN ?_ _) | (with_reducible refine Kd.C_drew ?_)))
        (case side4 => exact (Kd.R_reads' HO270.out).2.1)
        (case side5 => exact far_slice (IsS101.own_ne HI0.out HO270.out (by decide)))
        rintro e w50 ⟨rfl, hi, hb, hk⟩
        have HS1_ := keep_cell hk (hHeld.2.1) (by first | (rw [add_block]; exact Kd.own_blk (IsS101.own_ne HI0.out HO_243000.out (by decide))) | (show (Addr.add _ _).block ≠ _; rw [add_block]; exact Kd.own_blk (IsS101.own_ne HI0.out HO_243000.out (by decide))) | exact Kd.own_blk (IsS101.own_ne HI0.out HO_243000.out (by decide)))
        have HS2_ := keep_cell hk (hHeld.2.2.1) (by first | (rw [add_block]; exact Kd.own_blk (IsS101.own_ne HI0.out HO_243000.out (by decide))) | (show (Addr.add _ _).block ≠ _; rw [add_block]; exact Kd.own_blk (IsS101.own_ne HI0.out HO_243000.out (by decide))) | exact Kd.own_blk (IsS101.own_ne HI0.out HO_243000.out (by decide)))
        have HS3_ := keep_cell hk (hHeld.2.2.2) (by first | (rw [add_block]; exact Kd.own_blk (IsS101.own_ne HI0.out HO_243000.out (by decide))) | (show (Addr.add _ _).block ≠ _; rw [add_block]; exact Kd.own_blk (IsS101.own_ne HI0.out HO_243000.out (by decide))) | exact Kd.own_blk (IsS101.own_ne HI0.out HO_243000.out (by decide)))
        refine ⟨_, rfl, ?_⟩
        have n0_ := Aside0.mk (Kd.R_mono (Kd.R_keep (IsS101.apart (show IsS101 w0 _ g s0_0 t265 t266 from ii_ HI0) HO_243000.out (by decide)) hk (fun _ h => h.2)) (fun _ h => h.1))
        have n1_ := Aside0.mk (KeepBut.blk hk (g' := gb241) (o := .cells #[.slice none 0 0] 29 (0, 0)) BK241.out NB241_0.out (by simp))
        have n2_ := Aside0.mk (KeepBut.blk hk (g' := gb242) (o := .cells #[.slice (some ad267) x243000_1.length co43] 29 (0, 0)) BK242.out NB242_0.out (by simp))
        have n3_ := Aside0.mk (Kd.R_mono (Kd.R_keep (IsS101.apart (show IsS101 w0 _ g s0_0 t265 t266 from ii_ HI0) HO270.out (by decide)) hk (fun _ h => h.2)) (fun _ h => h.1))
        have n4_ := Aside0.mk (KeepBut.trans (kk_ HK) hk (.inl rfl))
        have n5_ := Aside0.mk (hb)
        have n6_ := Aside0.mk (hi)
        clear HO_243000 BK241 BK242 HO270 HK HB HI0
        have HO_243000 := n0_; have BK241 := n1_; have BK242 := n2_; have HO270 := n3_; have HK := n4_; have HB := n5_; have HI0 := n6_
        clear n0_ n1_ n2_ n3_ n4_ n5_ n6_
        (try clear hb); (try clear hb2); (try clear hk); (try clear hi)
        have p38 : 0 ≤ (t261 : Int) := of_decide_eq_true (by first | (with_reducible assumption) | assumption)
        have q38 : (t261 : Int) < ((x243000_1.length : Int) : Int) := of_decide_eq_true (by first | (with_reducible assumption) | assumption)
        obtain ⟨go38, co38, eo38, gb38, gl38, cl38, HG38⟩ := Kd.R_form HO_243000.out (by omega)
        (first | cases eo38 | (injection eo38 with ea_ en_ ec_; (first | subst ea_ | (injection ea_ with ea_; subst ea_)); subst ec_; clear en_))
        have GB38 := Aside0.mk gb38
        have GG38 := Aside0.mk HG38
        clear gb38 gl38 HG38
        (first | simp only [add_plain] at hx267_0 | skip)
        (first | simp only [add_plain] at hx267_1 | skip)
        (first | simp only [add_plain] at hx267_2 | skip)
        obtain ⟨ce38, hcl38, hM38, hcc38, hfr38⟩ := Kd.R_elem HO_243000.out z67 (t261 : Int) p38 q38
        obtain rfl := k67_openM hM38
        have hx38_0 : World.cell? _ ⟨go38, (t261 : Int).toNat * 3, none⟩ = some (.string ((rd_T67 x243000_1 t261).f0)) := hcc38 0 _ rfl
        have hx38_1 : World.cell? _ ⟨go38, (t261 : Int).toNat * 3 + 1, none⟩ = some (.string ((rd_T67 x243000_1 t261).f1)) := hcc38 1 _ rfl
        have hx38_2 : World.cell? _ ⟨go38, (t261 : Int).toNat * 3 + 2, none⟩ = some (.int .i64 ((rd_T67 x243000_1 t261).f2)) := hcc38 2 _ rfl
        have hf38_0 : World.frozen? _ ⟨go38, (t261 : Int).toNat * 3, none⟩ = false := hfr38 0
        have hf38_1 : World.frozen? _ ⟨go38, (t261 : Int).toNat * 3 + 1, none⟩ = false := hfr38 1
        have hf38_2 : World.frozen? _ ⟨go38, (t261 : Int).toNat * 3 + 2, none⟩ = false := hfr38 2
        clear hcl38 hcc38 hfr38 hM38
        replace p38 := eq_true p38
        replace q38 := eq_true q38
        have HN0_go38 := Aside0.mk (show g ≠ go38 from by have h_ := IsS101.own_ne HI0.out HO_243000.out (by decide); intro e_; exact h_ (by rw [e_]; rfl))
        obtain ⟨ce51, hcl51, hM51, hcc51, hfr51⟩ := Kd.R_elem HO_243000.out z67 (t261 : Int) (of_decide_eq_true (by first | (with_reducible assumption) | assumption)) (by have h_ : (t261 : Int) < ((x243000_1.length : Int) : Int) := of_decide_eq_true (by first | (with_reducible assumption) | assumption); first | exact h_ | (have e_ := (Kd.R_reads' HO_243000.out).1; omega) | simpa using h_)
        obtain rfl := k67_openM hM51
        have HP51 := (Kd.R_seg HO_243000.out (t261 : Int) (of_decide_eq_true (by first | (with_reducible assumption) | assumption)) (by have h_ : (t261 : Int) < ((x243000_1.length : Int) : Int) := of_decide_eq_true (by first | (with_reducible assumption) | assumption); first | exact h_ | (have e_ := (Kd.R_reads' HO_243000.out).1; omega) | simpa using h_) (seg := [.int .i64 t271]) (j := 2) hcl51 hcc51 (show 3 ≤ 3 from by decide) (x' := (⟨(rd_T67 x243000_1 t261).f0, (rd_T67 x243000_1 t261).f1, t271⟩ : S67)) (k67_mkM _ _ _ (⟨(rd_T67 x243000_1 t261).f0, (rd_T67 x243000_1 t261).f1, t271⟩ : S67) ) (fun _ hk => hk)).1
        rw [← Ny274.out] at HP51
        have HQ51 := Aside0.mk HP51
        clear hcl51 hcc51 hfr51 hM51 HP51
        refine hK.out _ _ ⟨(blk_cell BK242.out 0).trans rfl, HS1_, HS2_, HS3_⟩ (fun hHeld => ?_)
        clear hK K
        refine norm_ (a' := ?_) ?_ ?_
        rotate_left
        ·show Act.put _ (some 57) _ = _
         simp only [Act.put, List.setIfInBounds_toArray, List.set_cons_zero, List.set_cons_succ, i64_w, i32_w]
         rfl
        refine pure_ (i := 14) (N := some 58) (v := ?_) (a' := ?_) #[true, true, true, true, true, true, true, true, true, true, true, true, true, true, true, false, false] rfl rfl (any_of HT_.out (by kernel_rfl)) (fun _ _ _ h => h) (Or.inl ⟨by rfl, ?_⟩) ?_ ?_
        rotate_left
        ·intro w'
         go_simp
         with_reducible rfl
        rotate_left
        ·simp only [Act.put, List.setIfInBounds_toArray, List.set_cons_zero, List.set_cons_succ, i64_w, i32_w]
         rfl
        refine pure_ (i := 15) (N := some 59) (v := ?_) (a' := ?_) #[true, true, true, true, true, true, true, true, true, true, true, true, true, true, true, true, false] rfl rfl (any_of HT_.out (by kernel_rfl)) (fun _ _ _ h => h) (Or.inl ⟨by rfl, ?_⟩) ?_ ?_
        rotate_left
        ·intro w'
         go_simp
         with_reducible rfl
        rotate_left
        ·simp only [Act.put, List.setIfInBounds_toArray, List.set_cons_zero, List.set_cons_succ, i64_w, i32_w]
         rfl
        refine last_ (i := 16) (N := none) #[true, true, true, true, true, true, true, true, true, true, true, true, true, true, true, true, true] rfl rfl (one_of HT_.out (by kernel_rfl)) (by decide) (fun K hK => ?_)
        refine skip_ (w1 := ?_) (by rfl) rfl ?_ ?_
        rotate_left
        ·go_simp
         rfl
        refine hK.out _ _ ?_
        clear hK K
        refine done_ (done_of HT_.out (by kernel_rfl)) ?_
        have n0_ : Aside0 (Kd.R k67 67 (w50.setCell ⟨go38, (t261 : Int).toNat * 3 + 2, none⟩ (.int .i64 t271)) w.heap.size (fun _ => True) (.slice (some ⟨go38, 0, none⟩) x243000_1.length co43) y274) := ⟨rr_ HQ51⟩
        have n1_ : Aside0 (Kd.R (Kd.int .i64) 3 (w50.setCell ⟨go38, (t261 : Int).toNat * 3 + 2, none⟩ (.int .i64 t271)) w.heap.size (fun _ => True) (.slice Ao49 y268.length co49) y268) := ⟨by (with_reducible repeat (first | apply Kd.R_alloc | apply Kd.R_drewN | apply Kd.R_drew)); exact Kd.R_mono (Kd.R_far (p := ⟨go38, (t261 : Int).toNat * 3 + 2, none⟩) (Kd.R_types HO270.out GG38.out (by decide)) (fun _ hk => hk.2) (.int .i64 t271)) (fun _ hk => trivial)⟩
        have n2_ : Aside0 ((w50.setCell ⟨go38, (t261 : Int).toNat * 3 + 2, none⟩ (.int .i64 t271)).heap[gb241]? = some (.cells #[.slice none 0 0] 29 (0, 0))) := ⟨by (with_reducible repeat (first | refine blk_drewN ?_ _ | refine blk_drew ?_ | refine blk_alloc ?_ _)); refine blk_far ?_ (by have h_ := Kd.R_ne HO_243000.out BK241.out (by decide); intro e_; exact h_ (by rw [e_]; rfl)) _; (with_reducible repeat (first | refine blk_drewN ?_ _ | refine blk_drew ?_ | refine blk_alloc ?_ _)); exact BK241.out⟩
        have n3_ : Aside0 ((w50.setCell ⟨go38, (t261 : Int).toNat * 3 + 2, none⟩ (.int .i64 t271)).heap[gb242]? = some (.cells #[.slice (some ⟨go38, 0, none⟩) x243000_1.length co43] 29 (0, 0))) := ⟨by (with_reducible repeat (first | refine blk_drewN ?_ _ | refine blk_drew ?_ | refine blk_alloc ?_ _)); refine blk_far ?_ (by have h_ := Kd.R_ne HO_243000.out BK242.out (by decide); intro e_; exact h_ (by rw [e_]; rfl)) _; (with_reducible repeat (first | refine blk_drewN ?_ _ | refine blk_drew ?_ | refine blk_alloc ?_ _)); exact BK242.out⟩
        have n4_ : Aside0 (IsS101 w0 (w50.setCell ⟨go38, (t261 : Int).toNat * 3 + 2, none⟩ (.int .i64 t271)) g s0_0 t272 t273) := ⟨ii_ HI0⟩
        have n5_ : Aside0 (KeepBut w (w50.setCell ⟨go38, (t261 : Int).toNat * 3 + 2, none⟩ (.int .i64 t271)) g none) := ⟨kk_ HK⟩
        have n6_ : Aside0 (Below w0.heap.size w0 (w50.setCell ⟨go38, (t261 : Int).toNat * 3 + 2, none⟩ (.int .i64 t271))) := ⟨by repeat (first | (with_reducible first | exact HB.out | apply below_alloc | apply pw_below_drewN | apply below_drew1 | refine below_set ?_ (Nat.le_trans HL.out GB38.out) | refine below_set ?_ (IsS101.ge HI0.out) | refine below_set ?_ GE241.out | refine below_set ?_ GE242.out) | exact HB.out)⟩
        (try clear HO_243000); (try clear HO270); (try clear BK241); (try clear BK242); (try clear HI0); (try clear HK); (try clear HB)
        generalize (w50.setCell ⟨go38, (t261 : Int).toNat * 3 + 2, none⟩ (.int .i64 t271)) = w52 at n0_ n1_ n2_ n3_ n4_ n5_ n6_ ⊢
        have HO_243000 := n0_; have HO270 := n1_; have BK241 := n2_; have BK242 := n3_; have HI0 := n4_; have HK := n5_; have HB := n6_
        clear n0_ n1_ n2_ n3_ n4_ n5_ n6_
        have hcz53_0 : w52.cell? ⟨gb242, 0, none⟩ = some (.slice (some ⟨go38, 0, none⟩) x243000_1.length co43) := (blk_cell BK242.out 0).trans rfl
        have hfz53_0 := blk_frozen BK242.out 0
        have hnb54 := NB241_0.out; have hnc54 := NB0_241.out
        have hcz55_0 : w52.cell? ⟨gb241, 0, none⟩ = some (.slice none 0 0) := (blk_cell BK241.out 0).trans rfl
        have hfz55_0 := blk_frozen BK241.out 0
        try go_wp2
        refine bodyPost_ret (results_cell_row rfl _ _ gb241 29 #[.slice (some ⟨go38, 0, none⟩) x243000_1.length co43] (0, 0) _ rfl (by (with_reducible repeat (first | refine blk_drewN ?_ _ | refine blk_drew ?_ | refine blk_alloc ?_ _)); refine blk_put (cs := #[.slice none 0 0]) ?_ 0 _ rfl; exact bb_ BK241) Try.underlying29 rfl (by kernel_rfl)) rfl ?_
        exact ⟨_, by first | rfl | (simp [errW_none, errW_some] <;> rfl) | (simp [*, errW_none, errW_some] <;> rfl), by (with_reducible repeat (first | apply Kd.R_alloc | apply Kd.R_drewN | apply Kd.R_drew)); exact Kd.R_mono (Kd.R_far (p := ⟨gb241, 0, none⟩) (Kd.R_types HO_243000.out BK241.out (by decide)) (fun _ hk => hk.2) (.slice (some ⟨go38, 0, none⟩) x243000_1.length co43)) (fun _ hk => trivial), by repeat (first | (with_reducible first | exact HI0.out | apply IsS101.alloc | apply IsS101.drewN | apply IsS101.drew | apply IsS101.set_1 | apply IsS101.set_2 | refine IsS101.far ?_ NB0_241.out _ | refine IsS101.far ?_ NB0_242.out _) | exact HI0.out), by repeat (first | (with_reducible first | exact HB.out | apply below_alloc | apply pw_below_drewN | apply below_drew1 | refine below_set ?_ (IsS101.ge HI0.out) | refine below_set ?_ GE241.out | refine below_set ?_ GE242.out) | exact HB.out), by repeat (first | (with_reducible first | exact HK.out | apply KeepBut.set_ | apply keep_drewN | apply keep_drew | apply keep_alloc | refine keep_far ?_ GW241.out _ | refine keep_far ?_ GW242.out _) | exact HK.out)⟩
       ·rw [if_neg c36] at H
        exact absurd H (by simp)
      ·rw [if_neg c35] at H
       exact absurd H (by simp)
     ·rw [if_neg c34] at H
      have c34b0 : (t264 == 0) = false := beq_eq_false_iff_ne.mpr c34
      have c34b1 : (t264 != 0) = true := bne_iff_ne.mpr c34
      by_cases c56 : t264 = 1
      ·rw [if_pos c56] at H
       have c56b0 : (t264 == 1) = true := beq_iff_eq.mpr c56
       have c56b1 : (t264 != 1) = false := bne_eq_false_iff_eq.mpr c56
       clear c56
       by_cases c57 : 0 ≤ t261
       ·rw [if_pos c57] at H
        have c57b0 : decide (0 ≤ t261) = true := decide_eq_true c57
        clear c57
        by_cases c58 : t261 < (x243000_1.length : Int)
        ·rw [if_pos c58] at H
         have c58b0 : decide (t261 < (x243000_1.length : Int)) = true := decide_eq_true c58
         clear c58
         by_cases c59 : x243000_1.length < 3518437208883
         ·rw [if_pos c59] at H
          have LMc59 := Aside0.mk c59
          clear c59
          obtain ⟨y276, hy276⟩ : ∃ y_ : List (S67), y_ = (x243000_1 ++ [(⟨(rd_T67 x243000_1 t261).f0, (rd_T67 x243000_1 t261).f1, (rd_T67 x243000_1 t261).f2⟩ : S67)]) := ⟨_, rfl⟩
          replace H : (some (y276, t265, t266)) = some (r1, r2, r3) := by first | (rw [hy276]; with_reducible exact H) | (have H2_ := (Option.bind_some _ _).symm.trans H; rw [hy276]; with_reducible exact H2_) | (have H2_ := (Option.bind_some _ _).symm.trans H; with_reducible exact H2_) | with_reducible exact H | (rw [hy276]; exact H) | exact H
          have Ny276 := Aside0.mk hy276
          clear hy276
          simp only [Option.some.injEq, Prod.mk.injEq] at H
          obtain ⟨rfl, rfl, rfl⟩ := H
          try go_wp2_with (first | ((with_reducible refine gate_callee (f := 65) rfl ?_); refine goesL_ (some 11) rfl rfl Try.func65 (by kernel_rfl) rfl #[.pointer (some ⟨g, 0, none⟩), .int .i64 6] rfl (by (try simp only [List.map_toArray, List.map_cons, List.map_nil]); first | done | rfl | (simp only [List.length_drop, List.length_take]; rfl)) ?_; (with_reducible refine (spec_l01Below.calls g s0_0 x1001_1 x1002_1 6 t243 t244 t245 w0 _ ?side1 ?side2 A7.out).mono ?_); (case side1 => exact ii_ HI0); (case side2 => exact hj_ HB); rintro e w60 ⟨rfl, hi, hb, hk⟩; refine ⟨_, rfl, ?_⟩; have n0_ := Aside0.mk (Kd.R_mono (Kd.R_keep (IsS101.apart (show IsS101 w0 _ g s0_0 x1001_1 x1002_1 from ii_ HI0) (rr_ HO_243000) (by decide)) hk (fun _ h => h.2)) (fun _ h => h.1)); have n1_ := Aside0.mk (KeepBut.blk hk (g' := gb241) (o := .cells #[.slice none 0 0] 29 (0, 0)) (bb_ BK241) NB241_0.out (by simp)); have n2_ := Aside0.mk (KeepBut.blk hk (g' := gb242) (o := .cells #[u243000] 29 (0, 0)) (bb_ BK242) NB242_0.out (by simp)); have n3_ := Aside0.mk (KeepBut.trans (kk_ HK) hk (.inl rfl)); have n4_ := Aside0.mk (hb); have n5_ := Aside0.mk (hi); clear HO_243000 BK241 BK242 HK HB HI0; have HO_243000 := n0_; have BK241 := n1_; have BK242 := n2_; have HK := n3_; have HB := n4_; have HI0 := n5_; clear n0_ n1_ n2_ n3_ n4_ n5_; (try clear hb); (try clear hb2); (try clear hk); (try clear hi); have hnb61 := NB242_241.out; have hnc61 := NB241_242.out; have hnb62 := NB242_0.out; have hnc62 := NB0_242.out; have hcz63_0 : w60.cell? ⟨gb242, 0, none⟩ = some (u243000) := (blk_cell BK242.out 0).trans rfl; have hfz63_0 := blk_frozen BK242.out 0; obtain ⟨Ao64, co64, eo64⟩ := Kd.R_slice HO_243000.out; subst eo64) | ((with_reducible refine gate_callee (f := 65) rfl ?_); refine goesL_ (some 39) rfl rfl Try.func65 (by kernel_rfl) rfl #[.pointer (some ⟨g, 0, none⟩), .int .i64 (x243000_1.length : Int)] rfl (by (try simp only [List.map_toArray, List.map_cons, List.map_nil]); first | done | rfl | (simp only [List.length_drop, List.length_take]; rfl)) ?_; (with_reducible refine (spec_l01Below.calls g s0_0 t244 t245 (x243000_1.length : Int) t261 t262 t263 w0 _ ?side1 ?side2 A32.out).mono ?_); (case side1 => exact ii_ HI0); (case side2 => exact hj_ HB); rintro e w65 ⟨rfl, hi, hb, hk⟩; refine ⟨_, rfl, ?_⟩; have n0_ := Aside0.mk (Kd.R_mono (Kd.R_keep (IsS101.apart (show IsS101 w0 _ g s0_0 t244 t245 from ii_ HI0) (rr_ HO_243000) (by decide)) hk (fun _ h => h.2)) (fun _ h => h.1)); have n1_ := Aside0.mk (KeepBut.blk hk (g' := gb241) (o := .cells #[.slice none 0 0] 29 (0, 0)) (bb_ BK241) NB241_0.out (by simp)); have n2_ := Aside0.mk (KeepBut.blk hk (g' := gb242) (o := .cells #[.slice Ao64 x243000_1.length co64] 29 (0, 0)) (bb_ BK242) NB242_0.out (by simp)); have n3_ := Aside0.mk (KeepBut.trans (kk_ HK) hk (.inl rfl)); have n4_ := Aside0.mk (hb); have n5_ := Aside0.mk (hi); clear HO_243000 BK241 BK242 HK HB HI0; have HO_243000 := n0_; have BK241 := n1_; have BK242 := n2_; have HK := n3_; have HB := n4_; have HI0 := n5_; clear n0_ n1_ n2_ n3_ n4_ n5_; (try clear hb); (try clear hb2); (try clear hk); (try clear hi)) | ((with_reducible refine gate_callee (f := 65) rfl ?_); refine goesL_ (some 41) rfl rfl Try.func65 (by kernel_rfl) rfl #[.pointer (some ⟨g, 0, none⟩), .int .i64 40] rfl (by (try simp only [List.map_toArray, List.map_cons, List.map_nil]); first | done | rfl | (simp only [List.length_drop, List.length_take]; rfl)) ?_; (with_reducible refine (spec_l01Below.calls g s0_0 t262 t263 40 t264 t265 t266 w0 _ ?side1 ?side2 A33.out).mono ?_); (case side1 => exact ii_ HI0); (case side2 => exact hj_ HB); rintro e w66 ⟨rfl, hi, hb, hk⟩; refine ⟨_, rfl, ?_⟩; have n0_ := Aside0.mk (Kd.R_mono (Kd.R_keep (IsS101.apart (show IsS101 w0 _ g s0_0 t262 t263 from ii_ HI0) (rr_ HO_243000) (by decide)) hk (fun _ h => h.2)) (fun _ h => h.1)); have n1_ := Aside0.mk (KeepBut.blk hk (g' := gb241) (o := .cells #[.slice none 0 0] 29 (0, 0)) (bb_ BK241) NB241_0.out (by simp)); have n2_ := Aside0.mk (KeepBut.blk hk (g' := gb242) (o := .cells #[.slice Ao64 x243000_1.length co64] 29 (0, 0)) (bb_ BK242) NB242_0.out (by simp)); have n3_ := Aside0.mk (KeepBut.trans (kk_ HK) hk (.inl rfl)); have n4_ := Aside0.mk (hb); have n5_ := Aside0.mk (hi); clear HO_243000 BK241 BK242 HK HB HI0; have HO_243000 := n0_; have BK241 := n1_; have BK242 := n2_; have HK := n3_; have HB := n4_; have HI0 := n5_; clear n0_ n1_ n2_ n3_ n4_ n5_; (try clear hb); (try clear hb2); (try clear hk); (try clear hi)))
          have n0_ := Aside0.mk (Kd.R_drew HO_243000.out)
          have n1_ := Aside0.mk (blk_drew BK241.out)
          have n2_ := Aside0.mk (blk_drew BK242.out)
          have n3_ := Aside0.mk (IsS101.drew HI0.out)
          have n4_ := Aside0.mk (keep_drew HK.out)
          have n5_ := Aside0.mk (below_drew1 HB.out)
          clear HO_243000 BK241 BK242 HI0 HK HB
          have HO_243000 := n0_; have BK241 := n1_; have BK242 := n2_; have HI0 := n3_; have HK := n4_; have HB := n5_
          clear n0_ n1_ n2_ n3_ n4_ n5_
          have p275 : 0 ≤ (t261 : Int) := of_decide_eq_true (by first | (with_reducible assumption) | assumption)
          have q275 : t261 < (x243000_1.length : Int) := of_decide_eq_true (by first | (with_reducible assumption) | assumption)
          obtain ⟨ad275, e275, hx275_0, hx275_1, hx275_2⟩ := at_T67 (Kd.R_reads' HO_243000.out).2.2 t261 p275 q275
          cases e275
          replace p275 := eq_true p275
          replace q275 := eq_true q275
          refine start_ (n := 11) (S := fun w' => w'.cell? ⟨gb242, 0, none⟩ = some (.slice (some ad275) x243000_1.length co64) ∧ w'.cell? (ad275.add ((t261).toNat * 3)) = some (.string ((rd_T67 x243000_1 t261).f0)) ∧ w'.cell? ⟨(ad275.add ((t261).toNat * 3)).block, (ad275.add ((t261).toNat * 3)).off + 1, none⟩ = some (.string ((rd_T67 x243000_1 t261).f1)) ∧ w'.cell? ⟨(ad275.add ((t261).toNat * 3)).block, (ad275.add ((t261).toNat * 3)).off + 2, none⟩ = some (.int .i64 ((rd_T67 x243000_1 t261).f2))) (ds := [8, 10]) #[false, false, false, false, false, false, false, false, false, false, false] (by kernel_rfl) rfl rfl ⟨(blk_cell BK242.out 0).trans rfl, hx275_0, hx275_1, hx275_2⟩ (fun hHeld => ?_); refine with_tabW spec_l03Disk.tab14 spec_l03Disk.bits14 (fun HT_ HW_ => ?_)
          generalize w66.drew = w67 at HO_243000 BK241 BK242 HI0 HK HB hx275_0 hx275_1 hx275_2 hHeld ⊢
          refine pure_ (i := 0) (N := some 62) (v := ?_) (a' := ?_) #[true, false, false, false, false, false, false, false, false, false, false] rfl rfl (any_of HT_.out (by kernel_rfl)) (fun _ _ _ h => h) (Or.inl ⟨by rfl, ?_⟩) ?_ ?_
          rotate_left
          ·intro w'
           go_simp
           with_reducible rfl
          rotate_left
          ·simp only [Act.put, List.setIfInBounds_toArray, List.set_cons_zero, List.set_cons_succ, i64_w, i32_w]
           rfl
          refine pure_ (i := 2) (N := some 64) (v := ?_) (a' := ?_) #[true, false, true, false, false, false, false, false, false, false, false] rfl rfl (any_of HT_.out (by kernel_rfl)) (fun _ _ _ h => h) (Or.inl ⟨by rfl, ?_⟩) ?_ ?_
          rotate_left
          ·intro w'
           go_simp
           with_reducible rfl
          rotate_left
          ·simp only [Act.put, List.setIfInBounds_toArray, List.set_cons_zero, List.set_cons_succ, i64_w, i32_w]
           rfl
          refine pure_ (i := 4) (N := some 66) (v := ?_) (a' := ?_) #[true, false, true, false, true, false, false, false, false, false, false] rfl rfl (any_of HT_.out (by kernel_rfl)) (fun _ _ _ h => h) (Or.inl ⟨by rfl, ?_⟩) ?_ ?_
          rotate_left
          ·intro w'
           go_simp
           with_reducible rfl
          rotate_left
          ·simp only [Act.put, List.setIfInBounds_toArray, List.set_cons_zero, List.set_cons_succ, i64_w, i32_w]
           rfl
          refine take_ (i := 1) (N := some 63) (v := ?_) (a' := ?_) #[true, true, true, false, true, false, false, false, false, false, false] rfl rfl (take_ofW HT_.out HW_.out (by kernel_rfl)) (fun _ _ _ h => h) (Or.inl ⟨by rfl, ?_⟩) hHeld ?_ ?_
          rotate_left
          ·rintro w' ⟨s0, s1, s2, s3⟩
           go_simp
           with_reducible rfl
          rotate_left
          ·simp only [Act.put, List.setIfInBounds_toArray, List.set_cons_zero, List.set_cons_succ, i64_w, i32_w]
           rfl
          refine take_ (i := 3) (N := some 65) (v := ?_) (a' := ?_) #[true, true, true, true, true, false, false, false, false, false, false] rfl rfl (take_ofW HT_.out HW_.out (by kernel_rfl)) (fun _ _ _ h => h) (Or.inl ⟨by rfl, ?_⟩) hHeld ?_ ?_
          rotate_left
          ·rintro w' ⟨s0, s1, s2, s3⟩
           go_simp
           with_reducible rfl
          rotate_left
          ·simp only [Act.put, List.setIfInBounds_toArray, List.set_cons_zero, List.set_cons_succ, i64_w, i32_w]
           rfl
          refine pure_ (i := 5) (N := some 67) (v := ?_) (a' := ?_) #[true, true, true, true, true, true, false, false, false, false, false] rfl rfl (any_of HT_.out (by kernel_rfl)) (fun _ _ _ h => h) (Or.inl ⟨by rfl, ?_⟩) ?_ ?_
          rotate_left
          ·intro w'
           go_simp
           with_reducible rfl
          rotate_left
          ·simp only [Act.put, List.setIfInBounds_toArray, List.set_cons_zero, List.set_cons_succ, i64_w, i32_w]
           rfl
          refine take_ (i := 6) (N := some 68) (v := ?_) (a' := ?_) #[true, true, true, true, true, true, true, false, false, false, false] rfl rfl (take_ofW HT_.out HW_.out (by kernel_rfl)) (fun _ _ _ h => h) (Or.inl ⟨by rfl, ?_⟩) hHeld ?_ ?_
          rotate_left
          ·rintro w' ⟨s0, s1, s2, s3⟩
           go_simp
           with_reducible rfl
          rotate_left
          ·simp only [Act.put, List.setIfInBounds_toArray, List.set_cons_zero, List.set_cons_succ, i64_w, i32_w]
           rfl
          refine one_ (i := 7) (N := some 69) #[true, true, true, true, true, true, true, true, false, false, false] rfl rfl (one_of HT_.out (by kernel_rfl)) (by decide) (fun K hK => ?_)
          refine value_ (w1 := ?_) (v := ?_) (by rfl) rfl ?_ ?_
          rotate_left 2
          ·go_simp
           constructor
           ·rfl
           ·rfl
          refine hK.out _ _ ⟨(blk_cell (blk_alloc BK242.out _) 0).trans rfl, (World.cell?_alloc_lt _ _ _ (World.block_lt_of_cell? _ _ (hHeld.2.1))).trans (hHeld.2.1), (World.cell?_alloc_lt _ _ _ (World.block_lt_of_cell? _ _ (hHeld.2.2.1))).trans (hHeld.2.2.1), (World.cell?_alloc_lt _ _ _ (World.block_lt_of_cell? _ _ (hHeld.2.2.2))).trans (hHeld.2.2.2)⟩ (fun hHeld => ?_)
          clear hK K
          refine norm_ (a' := ?_) ?_ ?_
          rotate_left
          ·show Act.put _ (some 69) _ = _
           simp only [Act.put, List.setIfInBounds_toArray, List.set_cons_zero, List.set_cons_succ, i64_w, i32_w]
           rfl
          refine last_ (i := 8) (N := some 70) #[true, true, true, true, true, true, true, true, true, false, false] rfl rfl (one_of HT_.out (by kernel_rfl)) (by decide) (fun K hK => ?_)
          refine Kd.R_append_step k67 w.heap.size (by rfl) (.tmp 63) (.tmp 69) 27 67 (.agg #[(.string ⟨#[]⟩), (.string ⟨#[]⟩), (.int .i64 0)]) 40 rfl Try.underlying27 info67 rfl (by decide) (by omega) (.slice (some ad275) x243000_1.length co64) x243000_1 (⟨(rd_T67 x243000_1 t261).f0, (rd_T67 x243000_1 t261).f1, (rd_T67 x243000_1 t261).f2⟩ : S67) [.string ((rd_T67 x243000_1 t261).f0), .string ((rd_T67 x243000_1 t261).f1), .int .i64 ((rd_T67 x243000_1 t261).f2)] (fun _ => True) (fun _ => False) rfl rfl ?aP (fun _ hk => hk.elim) ?aF ?aO (Below.refl _ _) ?aS ?aL ?_
          (case aP => exact k67_mkM _ _ _ (⟨(rd_T67 x243000_1 t261).f0, (rd_T67 x243000_1 t261).f1, (rd_T67 x243000_1 t261).f2⟩ : S67))
          (case aF => exact (fun _ _ => trivial))
          (case aO => exact HO_243000.out)
          (case aS => exact (keep_size (w := w) (g := g) (row := none) (kk_ HK)))
          (case aL => have := LMc59.out; omega)
          intro v277 w68 ho hb hg hat
          rw [← Ny276.out] at ho
          have n0_ := Aside0.mk (blk_grown (g := gb241) (o := .cells #[.slice none 0 0] 29 (0, 0)) BK241.out hg (Kd.R_ne HO_243000.out BK241.out (by decide)))
          have n1_ := Aside0.mk (blk_grown (g := gb242) (o := .cells #[.slice (some ad275) x243000_1.length co64] 29 (0, 0)) BK242.out hg (Kd.R_ne HO_243000.out BK242.out (by decide)))
          have n2_ := Aside0.mk (IsS101.grown (ii_ HI0) hg (IsS101.own_ne HI0.out HO_243000.out (by decide)))
          have n3_ := Aside0.mk (below_weaken (hj_ HB) HL.out hb)
          have n4_ := Aside0.mk (KeepBut.trans (kk_ HK) (KeepBut.of_grown hg g) (Kd.R_base2 HO_243000.out))
          have n5_ := Aside0.mk (ho)
          clear BK241 BK242 HI0 HB HK HO_243000
          have BK241 := n0_; have BK242 := n1_; have HI0 := n2_; have HB := n3_; have HK := n4_; have HO278 := n5_
          clear n0_ n1_ n2_ n3_ n4_ n5_ ho hb hg hat
          obtain ⟨Ao69, co69, eo69⟩ := Kd.R_slice HO278.out
          (first | subst eo69 | (injection eo69 with f1_ f2_ f3_; have f4_ := f1_.symm; have f5_ := f3_.symm; clear f1_ f2_ f3_; subst f4_; subst f5_))
          refine hK.out _ _ ?_
          clear hK K
          refine norm_ (a' := ?_) ?_ ?_
          rotate_left
          ·show Act.put _ (some 70) _ = _
           simp only [Act.put, List.setIfInBounds_toArray, List.set_cons_zero, List.set_cons_succ, i64_w, i32_w]
           rfl
          refine pure_ (i := 9) (N := some 71) (v := ?_) (a' := ?_) #[true, true, true, true, true, true, true, true, true, true, false] rfl rfl (any_of HT_.out (by kernel_rfl)) (fun _ _ _ h => h) (Or.inl ⟨by rfl, ?_⟩) ?_ ?_
          rotate_left
          ·intro w'
           go_simp
           with_reducible rfl
          rotate_left
          ·simp only [Act.put, List.setIfInBounds_toArray, List.set_cons_zero, List.set_cons_succ, i64_w, i32_w]
           rfl
          refine last_ (i := 10) (N := none) #[true, true, true, true, true, true, true, true, true, true, true] rfl rfl (one_of HT_.out (by kernel_rfl)) (by decide) (fun K hK => ?_)
          have hs70 : w68.cell? ⟨gb242, 0, none⟩ = some (.slice (some ad275) x243000_1.length co64) := (blk_cell BK242.out 0).trans rfl
          have hfs70 := blk_frozen BK242.out 0
          have hns70_0 := NB241_242.out; have hms70_0 := NB242_241.out
          refine skip_ (w1 := ?_) (by rfl) rfl ?_ ?_
          rotate_left
          ·go_simp
           rfl
          refine hK.out _ _ ?_
          clear hK K
          refine done_ (done_of HT_.out (by kernel_rfl)) ?_
          have hcz71_0 : w68.cell? ⟨gb242, 0, none⟩ = some (.slice (some ad275) x243000_1.length co64) := (blk_cell BK242.out 0).trans rfl
          have hfz71_0 := blk_frozen BK242.out 0
          have hnb72 := NB241_0.out; have hnc72 := NB0_241.out
          have hcz73_0 : w68.cell? ⟨gb241, 0, none⟩ = some (.slice none 0 0) := (blk_cell BK241.out 0).trans rfl
          have hfz73_0 := blk_frozen BK241.out 0
          try go_wp2
          refine bodyPost_ret (results_cell_row rfl _ _ gb241 29 #[.slice Ao69 y276.length co69] (0, 0) _ rfl (by (with_reducible repeat (first | refine blk_drewN ?_ _ | refine blk_drew ?_ | refine blk_alloc ?_ _)); refine blk_put (cs := #[.slice none 0 0]) ?_ 0 _ rfl; refine blk_far ?_ NB241_242.out _; exact bb_ BK241) Try.underlying29 rfl (by kernel_rfl)) rfl ?_
          exact ⟨_, by first | rfl | (simp [errW_none, errW_some] <;> rfl) | (simp [*, errW_none, errW_some] <;> rfl), by (with_reducible repeat (first | apply Kd.R_alloc | apply Kd.R_drewN | apply Kd.R_drew)); exact Kd.R_mono (Kd.R_far (p := ⟨gb241, 0, none⟩) (Kd.R_far (p := ⟨gb242, 0, none⟩) (Kd.R_types (Kd.R_types HO278.out BK242.out (by decide)) BK241.out (by decide)) (fun _ hk => hk.1.2) (.slice Ao69 y276.length co69)) (fun _ hk => hk.2) (.slice Ao69 y276.length co69)) (fun _ hk => trivial), by repeat (first | (with_reducible first | exact HI0.out | apply IsS101.alloc | apply IsS101.drewN | apply IsS101.drew | apply IsS101.set_1 | apply IsS101.set_2 | refine IsS101.far ?_ NB0_241.out _ | refine IsS101.far ?_ NB0_242.out _) | exact HI0.out), by repeat (first | (with_reducible first | exact HB.out | apply below_alloc | apply pw_below_drewN | apply below_drew1 | refine below_set ?_ (IsS101.ge HI0.out) | refine below_set ?_ GE241.out | refine below_set ?_ GE242.out) | exact HB.out), by repeat (first | (with_reducible first | exact HK.out | apply KeepBut.set_ | apply keep_drewN | apply keep_drew | apply keep_alloc | refine keep_far ?_ GW241.out _ | refine keep_far ?_ GW242.out _) | exact HK.out)⟩
         ·rw [if_neg c59] at H
          exact absurd H (by simp)
        ·rw [if_neg c58] at H
         exact absurd H (by simp)
       ·rw [if_neg c57] at H
        exact absurd H (by simp)
      ·rw [if_neg c56] at H
       have c56b0 : (t264 == 1) = false := beq_eq_false_iff_ne.mpr c56
       have c56b1 : (t264 != 1) = true := bne_iff_ne.mpr c56
       by_cases c74 : t264 = 2
       ·rw [if_pos c74] at H
        have c74b0 : (t264 == 2) = true := beq_iff_eq.mpr c74
        have c74b1 : (t264 != 2) = false := bne_eq_false_iff_eq.mpr c74
        clear c74
        obtain ⟨y279, hy279⟩ : ∃ y_ : List ByteArray, y_ = (([(⟨#[]⟩ : ByteArray), (⟨#[49, 50, 51, 52, 53, 54, 55, 56]⟩ : ByteArray), (⟨#[49, 50, 51, 52, 53, 54, 55, 56, 57]⟩ : ByteArray)] : List ByteArray)) := ⟨_, rfl⟩
        replace H : ((spec_l01Pick.f s0_0 t265 t266 y279).bind fun bt282 => (if 0 ≤ t261 then (if t261 < (x243000_1.length : Int) then (some ((x243000_1.set (t261 : Int).toNat (⟨bt282.1, (rd_T67 x243000_1 t261).f1, (rd_T67 x243000_1 t261).f2⟩ : S67)), bt282.2.1, bt282.2.2)) else (none)) else (none))) = some (r1, r2, r3) := by first | (rw [hy279]; with_reducible exact H) | (have H2_ := (Option.bind_some _ _).symm.trans H; rw [hy279]; with_reducible exact H2_) | (have H2_ := (Option.bind_some _ _).symm.trans H; with_reducible exact H2_) | with_reducible exact H | (rw [hy279]; exact H) | exact H
        have Ny279 := Aside0.mk hy279
        clear hy279
        replace H := Option.bind_eq_some_iff.mp H
        obtain ⟨⟨t282, t283, t284⟩, A750, H⟩ := H
        replace H : (if 0 ≤ t261 then (if t261 < (x243000_1.length : Int) then (some ((x243000_1.set (t261 : Int).toNat (⟨t282, (rd_T67 x243000_1 t261).f1, (rd_T67 x243000_1 t261).f2⟩ : S67)), t283, t284)) else (none)) else (none)) = some (r1, r2, r3) := H
        have A75 := Aside0.mk A750
        clear A750
        by_cases c76 : 0 ≤ t261
        ·rw [if_pos c76] at H
         have c76b0 : decide (0 ≤ t261) = true := decide_eq_true c76
         clear c76
         by_cases c77 : t261 < (x243000_1.length : Int)
         ·rw [if_pos c77] at H
          have c77b0 : decide (t261 < (x243000_1.length : Int)) = true := decide_eq_true c77
          clear c77
          obtain ⟨y285, hy285⟩ : ∃ y_ : List (S67), y_ = (x243000_1.set (t261 : Int).toNat (⟨t282, (rd_T67 x243000_1 t261).f1, (rd_T67 x243000_1 t261).f2⟩ : S67)) := ⟨_, rfl⟩
          replace H : (some (y285, t283, t284)) = some (r1, r2, r3) := by first | (rw [hy285]; with_reducible exact H) | (have H2_ := (Option.bind_some _ _).symm.trans H; rw [hy285]; with_reducible exact H2_) | (have H2_ := (Option.bind_some _ _).symm.trans H; with_reducible exact H2_) | with_reducible exact H | (rw [hy285]; exact H) | exact H
          have Ny285 := Aside0.mk hy285
          clear hy285
          simp only [Option.some.injEq, Prod.mk.injEq] at H
          obtain ⟨rfl, rfl, rfl⟩ := H
          try go_wp2_with (first | ((with_reducible refine gate_callee (f := 65) rfl ?_); refine goesL_ (some 11) rfl rfl Try.func65 (by kernel_rfl) rfl #[.pointer (some ⟨g, 0, none⟩), .int .i64 6] rfl (by (try simp only [List.map_toArray, List.map_cons, List.map_nil]); first | done | rfl | (simp only [List.length_drop, List.length_take]; rfl)) ?_; (with_reducible refine (spec_l01Below.calls g s0_0 x1001_1 x1002_1 6 t243 t244 t245 w0 _ ?side1 ?side2 A7.out).mono ?_); (case side1 => exact ii_ HI0); (case side2 => exact hj_ HB); rintro e w79 ⟨rfl, hi, hb, hk⟩; refine ⟨_, rfl, ?_⟩; have n0_ := Aside0.mk (Kd.R_mono (Kd.R_keep (IsS101.apart (show IsS101 w0 _ g s0_0 x1001_1 x1002_1 from ii_ HI0) (rr_ HO_243000) (by decide)) hk (fun _ h => h.2)) (fun _ h => h.1)); have n1_ := Aside0.mk (KeepBut.blk hk (g' := gb241) (o := .cells #[.slice none 0 0] 29 (0, 0)) (bb_ BK241) NB241_0.out (by simp)); have n2_ := Aside0.mk (KeepBut.blk hk (g' := gb242) (o := .cells #[u243000] 29 (0, 0)) (bb_ BK242) NB242_0.out (by simp)); have n3_ := Aside0.mk (KeepBut.trans (kk_ HK) hk (.inl rfl)); have n4_ := Aside0.mk (hb); have n5_ := Aside0.mk (hi); clear HO_243000 BK241 BK242 HK HB HI0; have HO_243000 := n0_; have BK241 := n1_; have BK242 := n2_; have HK := n3_; have HB := n4_; have HI0 := n5_; clear n0_ n1_ n2_ n3_ n4_ n5_; (try clear hb); (try clear hb2); (try clear hk); (try clear hi); have hnb80 := NB242_241.out; have hnc80 := NB241_242.out; have hnb81 := NB242_0.out; have hnc81 := NB0_242.out; have hcz82_0 : w79.cell? ⟨gb242, 0, none⟩ = some (u243000) := (blk_cell BK242.out 0).trans rfl; have hfz82_0 := blk_frozen BK242.out 0; obtain ⟨Ao83, co83, eo83⟩ := Kd.R_slice HO_243000.out; subst eo83) | ((with_reducible refine gate_callee (f := 65) rfl ?_); refine goesL_ (some 39) rfl rfl Try.func65 (by kernel_rfl) rfl #[.pointer (some ⟨g, 0, none⟩), .int .i64 (x243000_1.length : Int)] rfl (by (try simp only [List.map_toArray, List.map_cons, List.map_nil]); first | done | rfl | (simp only [List.length_drop, List.length_take]; rfl)) ?_; (with_reducible refine (spec_l01Below.calls g s0_0 t244 t245 (x243000_1.length : Int) t261 t262 t263 w0 _ ?side1 ?side2 A32.out).mono ?_); (case side1 => exact ii_ HI0); (case side2 => exact hj_ HB); rintro e w84 ⟨rfl, hi, hb, hk⟩; refine ⟨_, rfl, ?_⟩; have n0_ := Aside0.mk (Kd.R_mono (Kd.R_keep (IsS101.apart (show IsS101 w0 _ g s0_0 t244 t245 from ii_ HI0) (rr_ HO_243000) (by decide)) hk (fun _ h => h.2)) (fun _ h => h.1)); have n1_ := Aside0.mk (KeepBut.blk hk (g' := gb241) (o := .cells #[.slice none 0 0] 29 (0, 0)) (bb_ BK241) NB241_0.out (by simp)); have n2_ := Aside0.mk (KeepBut.blk hk (g' := gb242) (o := .cells #[.slice Ao83 x243000_1.length co83] 29 (0, 0)) (bb_ BK242) NB242_0.out (by simp)); have n3_ := Aside0.mk (KeepBut.trans (kk_ HK) hk (.inl rfl)); have n4_ := Aside0.mk (hb); have n5_ := Aside0.mk (hi); clear HO_243000 BK241 BK242 HK HB HI0; have HO_243000 := n0_; have BK241 := n1_; have BK242 := n2_; have HK := n3_; have HB := n4_; have HI0 := n5_; clear n0_ n1_ n2_ n3_ n4_ n5_; (try clear hb); (try clear hb2); (try clear hk); (try clear hi)) | ((with_reducible refine gate_callee (f := 65) rfl ?_); refine goesL_ (some 41) rfl rfl Try.func65 (by kernel_rfl) rfl #[.pointer (some ⟨g, 0, none⟩), .int .i64 40] rfl (by (try simp only [List.map_toArray, List.map_cons, List.map_nil]); first | done | rfl | (simp only [List.length_drop, List.length_take]; rfl)) ?_; (with_reducible refine (spec_l01Below.calls g s0_0 t262 t263 40 t264 t265 t266 w0 _ ?side1 ?side2 A33.out).mono ?_); (case side1 => exact ii_ HI0); (case side2 => exact hj_ HB); rintro e w85 ⟨rfl, hi, hb, hk⟩; refine ⟨_, rfl, ?_⟩; have n0_ := Aside0.mk (Kd.R_mono (Kd.R_keep (IsS101.apart (show IsS101 w0 _ g s0_0 t262 t263 from ii_ HI0) (rr_ HO_243000) (by decide)) hk (fun _ h => h.2)) (fun _ h => h.1)); have n1_ := Aside0.mk (KeepBut.blk hk (g' := gb241) (o := .cells #[.slice none 0 0] 29 (0, 0)) (bb_ BK241) NB241_0.out (by simp)); have n2_ := Aside0.mk (KeepBut.blk hk (g' := gb242) (o := .cells #[.slice Ao83 x243000_1.length co83] 29 (0, 0)) (bb_ BK242) NB242_0.out (by simp)); have n3_ := Aside0.mk (KeepBut.trans (kk_ HK) hk (.inl rfl)); have n4_ := Aside0.mk (hb); have n5_ := Aside0.mk (hi); clear HO_243000 BK241 BK242 HK HB HI0; have HO_243000 := n0_; have BK241 := n1_; have BK242 := n2_; have HK := n3_; have HB := n4_; have HI0 := n5_; clear n0_ n1_ n2_ n3_ n4_ n5_; (try clear hb); (try clear hb2); (try clear hk); (try clear hi)))
          have n0_ := Aside0.mk (Kd.R_drew HO_243000.out)
          have n1_ := Aside0.mk (blk_drew BK241.out)
          have n2_ := Aside0.mk (blk_drew BK242.out)
          have n3_ := Aside0.mk (IsS101.drew HI0.out)
          have n4_ := Aside0.mk (keep_drew HK.out)
          have n5_ := Aside0.mk (below_drew1 HB.out)
          clear HO_243000 BK241 BK242 HI0 HK HB
          have HO_243000 := n0_; have BK241 := n1_; have BK242 := n2_; have HI0 := n3_; have HK := n4_; have HB := n5_
          clear n0_ n1_ n2_ n3_ n4_ n5_
          refine start_ (n := 9) (S := fun w' => w'.cell? ⟨gb242, 0, none⟩ = some (.slice Ao83 x243000_1.length co83)) (ds := [8]) #[false, false, false, false, false, false, false, false, false] (by kernel_rfl) rfl rfl ((blk_cell BK242.out 0).trans rfl) (fun hHeld => ?_); refine with_tabW spec_l03Disk.tab16 spec_l03Disk.bits16 (fun HT_ HW_ => ?_)
          generalize w85.drew = w86 at HO_243000 BK241 BK242 HI0 HK HB hHeld ⊢
          refine pure_ (i := 0) (N := some 74) (v := ?_) (a' := ?_) #[true, false, false, false, false, false, false, false, false] rfl rfl (any_of HT_.out (by kernel_rfl)) (fun _ _ _ h => h) (Or.inl ⟨by rfl, ?_⟩) ?_ ?_
          rotate_left
          ·intro w'
           go_simp
           with_reducible rfl
          rotate_left
          ·simp only [Act.put, List.setIfInBounds_toArray, List.set_cons_zero, List.set_cons_succ, i64_w, i32_w]
           rfl
          refine pure_ (i := 2) (N := some 76) (v := ?_) (a' := ?_) #[true, false, true, false, false, false, false, false, false] rfl rfl (any_of HT_.out (by kernel_rfl)) (fun _ _ _ h => h) (Or.inl ⟨by rfl, ?_⟩) ?_ ?_
          rotate_left
          ·intro w'
           go_simp
           with_reducible rfl
          rotate_left
          ·simp only [Act.put, List.setIfInBounds_toArray, List.set_cons_zero, List.set_cons_succ, i64_w, i32_w]
           rfl
          refine pure_ (i := 3) (N := some 77) (v := ?_) (a' := ?_) #[true, false, true, true, false, false, false, false, false] rfl rfl (any_of HT_.out (by kernel_rfl)) (fun _ _ _ h => h) (Or.inl ⟨by rfl, ?_⟩) ?_ ?_
          rotate_left
          ·intro w'
           go_simp
           with_reducible rfl
          rotate_left
          ·simp only [Act.put, List.setIfInBounds_toArray, List.set_cons_zero, List.set_cons_succ, i64_w, i32_w]
           rfl
          refine take_ (i := 1) (N := some 75) (v := ?_) (a' := ?_) #[true, true, true, true, false, false, false, false, false] rfl rfl (take_ofW HT_.out HW_.out (by kernel_rfl)) (fun _ _ _ h => h) (Or.inl ⟨by rfl, ?_⟩) hHeld ?_ ?_
          rotate_left
          ·intro w' s0
           go_simp
           with_reducible rfl
          rotate_left
          ·simp only [Act.put, List.setIfInBounds_toArray, List.set_cons_zero, List.set_cons_succ, i64_w, i32_w]
           rfl
          refine one_ (i := 4) (N := some 78) #[true, true, true, true, true, false, false, false, false] rfl rfl (one_of HT_.out (by kernel_rfl)) (by decide) (fun K hK => ?_)
          refine Kd.R_lit_step Kd.string _ 9 ?hg (N := 78) ?hd (xs := ([(⟨#[]⟩ : ByteArray), (⟨#[49, 50, 51, 52, 53, 54, 55, 56]⟩ : ByteArray), (⟨#[49, 50, 51, 52, 53, 54, 55, 56, 57]⟩ : ByteArray)] : List ByteArray)) (inner := [.string (⟨#[]⟩ : ByteArray), .string (⟨#[49, 50, 51, 52, 53, 54, 55, 56]⟩ : ByteArray), .string (⟨#[49, 50, 51, 52, 53, 54, 55, 56, 57]⟩ : ByteArray)]) (ok := fun _ => True) (okp := fun _ => True) ?hr ?hp (fun _ hk => hk) trivial (Below.refl _ _) (Nat.le_refl _) (by simp) ?_; (case hd => rfl); (case hg => rfl); (case hr => first | (go_simp; done) | (go_simp; rfl)); (case hp => exact (Reps.one (show Kd.M Kd.string _ _ _ (⟨#[]⟩ : ByteArray) [.string (⟨#[]⟩ : ByteArray)] from rfl) (Reps.one (show Kd.M Kd.string _ _ _ (⟨#[49, 50, 51, 52, 53, 54, 55, 56]⟩ : ByteArray) [.string (⟨#[49, 50, 51, 52, 53, 54, 55, 56]⟩ : ByteArray)] from rfl) (Reps.one (show Kd.M Kd.string _ _ _ (⟨#[49, 50, 51, 52, 53, 54, 55, 56, 57]⟩ : ByteArray) [.string (⟨#[49, 50, 51, 52, 53, 54, 55, 56, 57]⟩ : ByteArray)] from rfl) (Reps.none _ _)))))
          intro v280 w87 ho88 hb hg_ hnew_
          clear hg_ hnew_
          (first | rw [← Ny279.out] at ho88 | (simp only [Int.reduceToNat] at ho88; rw [← Ny279.out] at ho88))
          have n0_ := Aside0.mk (Kd.R_below HO_243000.out hb)
          have n1_ := Aside0.mk (Kd.R_lower ho88 (keep_size (w := w) (g := g) (row := none) (kk_ HK)))
          have n2_ := Aside0.mk (blk_below BK241.out hb)
          have n3_ := Aside0.mk (blk_below BK242.out hb)
          have n4_ := Aside0.mk (IsS101.below (ii_ HI0) hb)
          have n5_ := Aside0.mk (KeepBut.trans (kk_ HK) (KeepBut.of_below hb g none) (.inl rfl))
          have n6_ := Aside0.mk (below_step (hj_ HB) hb)
          clear HO_243000 BK241 BK242 HI0 HK HB
          have HO_243000 := n0_; have HO281 := n1_; have BK241 := n2_; have BK242 := n3_; have HI0 := n4_; have HK := n5_; have HB := n6_
          clear n0_ n1_ n2_ n3_ n4_ n5_ n6_ hb ho88
          obtain ⟨Ao89, co89, eo89⟩ := Kd.R_slice HO281.out
          (first | subst eo89 | (injection eo89 with f1_ f2_ f3_; have f4_ := f1_.symm; have f5_ := f3_.symm; clear f1_ f2_ f3_; subst f4_; subst f5_))
          refine hK.out _ _ ((blk_cell BK242.out 0).trans rfl) (fun hHeld => ?_)
          clear hK K
          refine norm_ (a' := ?_) ?_ ?_
          rotate_left
          ·show Act.put _ (some 78) _ = _
           simp only [Act.put, List.setIfInBounds_toArray, List.set_cons_zero, List.set_cons_succ, i64_w, i32_w]
           rfl
          refine one_ (i := 5) (N := some 79) #[true, true, true, true, true, true, false, false, false] rfl rfl (one_of HT_.out (by kernel_rfl)) (by decide) (fun K hK => ?_)
          refine goes_ Try.func76 (by kernel_rfl) rfl #[.pointer (some ⟨g, 0, none⟩), .slice Ao89 y279.length co89] (by rfl) rfl rfl (by (try simp only [List.map_toArray, List.map_cons, List.map_nil]); first | done | rfl | (simp only [List.length_drop, List.length_take]; rfl)) ?_
          with_reducible refine (spec_l01Pick.calls g s0_0 t265 t266 _ _ y279 t282 t283 t284 w0 _ ?side1 ?side2 ?side3 ?side4 ?side5 A75.out).mono ?_
          (case side1 => exact ii_ HI0)
          (case side2 => exact hj_ HB)
          (case side3 => repeat (first | exact (Kd.R_reads' HO281.out).2.2 | (with_reducible refine Kd.C_alloc ?_ _) | (with_reducible refine Kd.C_drewN ?_ _) | (with_reducible refine Kd.C_drew ?_)))
          (case side4 => exact (Kd.R_reads' HO281.out).2.1)
          (case side5 => exact far_slice (IsS101.own_ne HI0.out HO281.out (by decide)))
          rintro e w90 ⟨rfl, hi, hb, hk⟩
          refine ⟨_, rfl, ?_⟩
          have n0_ := Aside0.mk (Kd.R_mono (Kd.R_keep (IsS101.apart (show IsS101 w0 _ g s0_0 t265 t266 from ii_ HI0) HO_243000.out (by decide)) hk (fun _ h => h.2)) (fun _ h => h.1))
          have n1_ := Aside0.mk (KeepBut.blk hk (g' := gb241) (o := .cells #[.slice none 0 0] 29 (0, 0)) BK241.out NB241_0.out (by simp))
          have n2_ := Aside0.mk (KeepBut.blk hk (g' := gb242) (o := .cells #[.slice Ao83 x243000_1.length co83] 29 (0, 0)) BK242.out NB242_0.out (by simp))
          have n3_ := Aside0.mk (Kd.R_mono (Kd.R_keep (IsS101.apart (show IsS101 w0 _ g s0_0 t265 t266 from ii_ HI0) HO281.out (by decide)) hk (fun _ h => h.2)) (fun _ h => h.1))
          have n4_ := Aside0.mk (KeepBut.trans (kk_ HK) hk (.inl rfl))
          have n5_ := Aside0.mk (hb)
          have n6_ := Aside0.mk (hi)
          clear HO_243000 BK241 BK242 HO281 HK HB HI0
          have HO_243000 := n0_; have BK241 := n1_; have BK242 := n2_; have HO281 := n3_; have HK := n4_; have HB := n5_; have HI0 := n6_
          clear n0_ n1_ n2_ n3_ n4_ n5_ n6_
          (try clear hb); (try clear hb2); (try clear hk); (try clear hi)
          have p78 : 0 ≤ (t261 : Int) := of_decide_eq_true (by first | (with_reducible assumption) | assumption)
          have q78 : (t261 : Int) < ((x243000_1.length : Int) : Int) := of_decide_eq_true (by first | (with_reducible assumption) | assumption)
          obtain ⟨go78, co78, eo78, gb78, gl78, cl78, HG78⟩ := Kd.R_form HO_243000.out (by omega)
          (first | cases eo78 | (injection eo78 with ea_ en_ ec_; (first | subst ea_ | (injection ea_ with ea_; subst ea_)); subst ec_; clear en_))
          have GB78 := Aside0.mk gb78
          have GG78 := Aside0.mk HG78
          clear gb78 gl78 HG78
          obtain ⟨ce78, hcl78, hM78, hcc78, hfr78⟩ := Kd.R_elem HO_243000.out z67 (t261 : Int) p78 q78
          obtain rfl := k67_openM hM78
          have hx78_0 : World.cell? _ ⟨go78, (t261 : Int).toNat * 3, none⟩ = some (.string ((rd_T67 x243000_1 t261).f0)) := hcc78 0 _ rfl
          have hx78_1 : World.cell? _ ⟨go78, (t261 : Int).toNat * 3 + 1, none⟩ = some (.string ((rd_T67 x243000_1 t261).f1)) := hcc78 1 _ rfl
          have hx78_2 : World.cell? _ ⟨go78, (t261 : Int).toNat * 3 + 2, none⟩ = some (.int .i64 ((rd_T67 x243000_1 t261).f2)) := hcc78 2 _ rfl
          have hf78_0 : World.frozen? _ ⟨go78, (t261 : Int).toNat * 3, none⟩ = false := hfr78 0
          have hf78_1 : World.frozen? _ ⟨go78, (t261 : Int).toNat * 3 + 1, none⟩ = false := hfr78 1
          have hf78_2 : World.frozen? _ ⟨go78, (t261 : Int).toNat * 3 + 2, none⟩ = false := hfr78 2
          clear hcl78 hcc78 hfr78 hM78
          replace p78 := eq_true p78
          replace q78 := eq_true q78
          have HN0_go78 := Aside0.mk (show g ≠ go78 from by have h_ := IsS101.own_ne HI0.out HO_243000.out (by decide); intro e_; exact h_ (by rw [e_]; rfl))
          obtain ⟨ce91, hcl91, hM91, hcc91, hfr91⟩ := Kd.R_elem HO_243000.out z67 (t261 : Int) (of_decide_eq_true (by first | (with_reducible assumption) | assumption)) (by have h_ : (t261 : Int) < ((x243000_1.length : Int) : Int) := of_decide_eq_true (by first | (with_reducible assumption) | assumption); first | exact h_ | (have e_ := (Kd.R_reads' HO_243000.out).1; omega) | simpa using h_)
          obtain rfl := k67_openM hM91
          have HP91 := (Kd.R_seg HO_243000.out (t261 : Int) (of_decide_eq_true (by first | (with_reducible assumption) | assumption)) (by have h_ : (t261 : Int) < ((x243000_1.length : Int) : Int) := of_decide_eq_true (by first | (with_reducible assumption) | assumption); first | exact h_ | (have e_ := (Kd.R_reads' HO_243000.out).1; omega) | simpa using h_) (seg := [.string t282]) (j := 0) hcl91 hcc91 (show 1 ≤ 3 from by decide) (x' := (⟨t282, (rd_T67 x243000_1 t261).f1, (rd_T67 x243000_1 t261).f2⟩ : S67)) (k67_mkM _ _ _ (⟨t282, (rd_T67 x243000_1 t261).f1, (rd_T67 x243000_1 t261).f2⟩ : S67) ) (fun _ hk => hk)).1
          rw [← Ny285.out] at HP91
          have HQ91 := Aside0.mk HP91
          clear hcl91 hcc91 hfr91 hM91 HP91
          refine hK.out _ _ ((blk_cell BK242.out 0).trans rfl) (fun hHeld => ?_)
          clear hK K
          refine norm_ (a' := ?_) ?_ ?_
          rotate_left
          ·show Act.put _ (some 79) _ = _
           simp only [Act.put, List.setIfInBounds_toArray, List.set_cons_zero, List.set_cons_succ, i64_w, i32_w]
           rfl
          refine pure_ (i := 6) (N := some 80) (v := ?_) (a' := ?_) #[true, true, true, true, true, true, true, false, false] rfl rfl (any_of HT_.out (by kernel_rfl)) (fun _ _ _ h => h) (Or.inl ⟨by rfl, ?_⟩) ?_ ?_
          rotate_left
          ·intro w'
           go_simp
           with_reducible rfl
          rotate_left
          ·simp only [Act.put, List.setIfInBounds_toArray, List.set_cons_zero, List.set_cons_succ, i64_w, i32_w]
           rfl
          refine pure_ (i := 7) (N := some 81) (v := ?_) (a' := ?_) #[true, true, true, true, true, true, true, true, false] rfl rfl (any_of HT_.out (by kernel_rfl)) (fun _ _ _ h => h) (Or.inl ⟨by rfl, ?_⟩) ?_ ?_
          rotate_left
          ·intro w'
           go_simp
           with_reducible rfl
          rotate_left
          ·simp only [Act.put, List.setIfInBounds_toArray, List.set_cons_zero, List.set_cons_succ, i64_w, i32_w]
           rfl
          refine last_ (i := 8) (N := none) #[true, true, true, true, true, true, true, true, true] rfl rfl (one_of HT_.out (by kernel_rfl)) (by decide) (fun K hK => ?_)
          refine skip_ (w1 := ?_) (by rfl) rfl ?_ ?_
          rotate_left
          ·go_simp
           rfl
          refine hK.out _ _ ?_
          clear hK K
          refine done_ (done_of HT_.out (by kernel_rfl)) ?_
          have n0_ : Aside0 (Kd.R k67 67 (w90.setCell ⟨go78, (t261 : Int).toNat * 3, none⟩ (.string t282)) w.heap.size (fun _ => True) (.slice (some ⟨go78, 0, none⟩) x243000_1.length co83) y285) := ⟨rr_ HQ91⟩
          have n1_ : Aside0 (Kd.R Kd.string 9 (w90.setCell ⟨go78, (t261 : Int).toNat * 3, none⟩ (.string t282)) w.heap.size (fun _ => True) (.slice Ao89 y279.length co89) y279) := ⟨by (with_reducible repeat (first | apply Kd.R_alloc | apply Kd.R_drewN | apply Kd.R_drew)); exact Kd.R_mono (Kd.R_far (p := ⟨go78, (t261 : Int).toNat * 3, none⟩) (Kd.R_types HO281.out GG78.out (by decide)) (fun _ hk => hk.2) (.string t282)) (fun _ hk => trivial)⟩
          have n2_ : Aside0 ((w90.setCell ⟨go78, (t261 : Int).toNat * 3, none⟩ (.string t282)).heap[gb241]? = some (.cells #[.slice none 0 0] 29 (0, 0))) := ⟨by (with_reducible repeat (first | refine blk_drewN ?_ _ | refine blk_drew ?_ | refine blk_alloc ?_ _)); refine blk_far ?_ (by have h_ := Kd.R_ne HO_243000.out BK241.out (by decide); intro e_; exact h_ (by rw [e_]; rfl)) _; (with_reducible repeat (first | refine blk_drewN ?_ _ | refine blk_drew ?_ | refine blk_alloc ?_ _)); exact BK241.out⟩
          have n3_ : Aside0 ((w90.setCell ⟨go78, (t261 : Int).toNat * 3, none⟩ (.string t282)).heap[gb242]? = some (.cells #[.slice (some ⟨go78, 0, none⟩) x243000_1.length co83] 29 (0, 0))) := ⟨by (with_reducible repeat (first | refine blk_drewN ?_ _ | refine blk_drew ?_ | refine blk_alloc ?_ _)); refine blk_far ?_ (by have h_ := Kd.R_ne HO_243000.out BK242.out (by decide); intro e_; exact h_ (by rw [e_]; rfl)) _; (with_reducible repeat (first | refine blk_drewN ?_ _ | refine blk_drew ?_ | refine blk_alloc ?_ _)); exact BK242.out⟩
          have n4_ : Aside0 (IsS101 w0 (w90.setCell ⟨go78, (t261 : Int).toNat * 3, none⟩ (.string t282)) g s0_0 t283 t284) := ⟨ii_ HI0⟩
          have n5_ : Aside0 (KeepBut w (w90.setCell ⟨go78, (t261 : Int).toNat * 3, none⟩ (.string t282)) g none) := ⟨kk_ HK⟩
          have n6_ : Aside0 (Below w0.heap.size w0 (w90.setCell ⟨go78, (t261 : Int).toNat * 3, none⟩ (.string t282))) := ⟨by repeat (first | (with_reducible first | exact HB.out | apply below_alloc | apply pw_below_drewN | apply below_drew1 | refine below_set ?_ (Nat.le_trans HL.out GB78.out) | refine below_set ?_ (IsS101.ge HI0.out) | refine below_set ?_ GE241.out | refine below_set ?_ GE242.out) | exact HB.out)⟩
          (try clear HO_243000); (try clear HO281); (try clear BK241); (try clear BK242); (try clear HI0); (try clear HK); (try clear HB)
          generalize (w90.setCell ⟨go78, (t261 : Int).toNat * 3, none⟩ (.string t282)) = w92 at n0_ n1_ n2_ n3_ n4_ n5_ n6_ ⊢
          have HO_243000 := n0_; have HO281 := n1_; have BK241 := n2_; have BK242 := n3_; have HI0 := n4_; have HK := n5_; have HB := n6_
          clear n0_ n1_ n2_ n3_ n4_ n5_ n6_
          have hcz93_0 : w92.cell? ⟨gb242, 0, none⟩ = some (.slice (some ⟨go78, 0, none⟩) x243000_1.length co83) := (blk_cell BK242.out 0).trans rfl
          have hfz93_0 := blk_frozen BK242.out 0
          have hnb94 := NB241_0.out; have hnc94 := NB0_241.out
          have hcz95_0 : w92.cell? ⟨gb241, 0, none⟩ = some (.slice none 0 0) := (blk_cell BK241.out 0).trans rfl
          have hfz95_0 := blk_frozen BK241.out 0
          try go_wp2
          refine bodyPost_ret (results_cell_row rfl _ _ gb241 29 #[.slice (some ⟨go78, 0, none⟩) x243000_1.length co83] (0, 0) _ rfl (by (with_reducible repeat (first | refine blk_drewN ?_ _ | refine blk_drew ?_ | refine blk_alloc ?_ _)); refine blk_put (cs := #[.slice none 0 0]) ?_ 0 _ rfl; exact bb_ BK241) Try.underlying29 rfl (by kernel_rfl)) rfl ?_
          exact ⟨_, by first | rfl | (simp [errW_none, errW_some] <;> rfl) | (simp [*, errW_none, errW_some] <;> rfl), by (with_reducible repeat (first | apply Kd.R_alloc | apply Kd.R_drewN | apply Kd.R_drew)); exact Kd.R_mono (Kd.R_far (p := ⟨gb241, 0, none⟩) (Kd.R_types HO_243000.out BK241.out (by decide)) (fun _ hk => hk.2) (.slice (some ⟨go78, 0, none⟩) x243000_1.length co83)) (fun _ hk => trivial), by repeat (first | (with_reducible first | exact HI0.out | apply IsS101.alloc | apply IsS101.drewN | apply IsS101.drew | apply IsS101.set_1 | apply IsS101.set_2 | refine IsS101.far ?_ NB0_241.out _ | refine IsS101.far ?_ NB0_242.out _) | exact HI0.out), by repeat (first | (with_reducible first | exact HB.out | apply below_alloc | apply pw_below_drewN | apply below_drew1 | refine below_set ?_ (IsS101.ge HI0.out) | refine below_set ?_ GE241.out | refine below_set ?_ GE242.out) | exact HB.out), by repeat (first | (with_reducible first | exact HK.out | apply KeepBut.set_ | apply keep_drewN | apply keep_drew | apply keep_alloc | refine keep_far ?_ GW241.out _ | refine keep_far ?_ GW242.out _) | exact HK.out)⟩
         ·rw [if_neg c77] at H
          exact absurd H (by simp)
        ·rw [if_neg c76] at H
         exact absurd H (by simp)
       ·rw [if_neg c74] at H
        have c74b0 : (t264 == 2) = false := beq_eq_false_iff_ne.mpr c74
        have c74b1 : (t264 != 2) = true := bne_iff_ne.mpr c74
        by_cases c96 : t264 = 3
        ·rw [if_pos c96] at H
         have c96b0 : (t264 == 3) = true := beq_iff_eq.mpr c96
         have c96b1 : (t264 != 3) = false := bne_eq_false_iff_eq.mpr c96
         clear c96
         obtain ⟨y286, hy286⟩ : ∃ y_ : List (S67), y_ = (([] : List (S67))) := ⟨_, rfl⟩
         replace H : (spec_l03Disk.l1 k1 0 s0_0 t265 t266 y286) = some (r1, r2, r3) := by first | (rw [hy286]; with_reducible exact H) | (have H2_ := (Option.bind_some _ _).symm.trans H; rw [hy286]; with_reducible exact H2_) | (have H2_ := (Option.bind_some _ _).symm.trans H; with_reducible exact H2_) | with_reducible exact H | (rw [hy286]; exact H) | exact H
         have Ny286 := Aside0.mk hy286
         clear hy286
         have H' := Aside0.mk H
         clear H
         go_wp2_with (first | ((with_reducible refine gate_callee (f := 65) rfl ?_); refine goesL_ (some 11) rfl rfl Try.func65 (by kernel_rfl) rfl #[.pointer (some ⟨g, 0, none⟩), .int .i64 6] rfl (by (try simp only [List.map_toArray, List.map_cons, List.map_nil]); first | done | rfl | (simp only [List.length_drop, List.length_take]; rfl)) ?_; (with_reducible refine (spec_l01Below.calls g s0_0 x1001_1 x1002_1 6 t243 t244 t245 w0 _ ?side1 ?side2 A7.out).mono ?_); (case side1 => exact ii_ HI0); (case side2 => exact hj_ HB); rintro e w97 ⟨rfl, hi, hb, hk⟩; refine ⟨_, rfl, ?_⟩; have n0_ := Aside0.mk (Kd.R_mono (Kd.R_keep (IsS101.apart (show IsS101 w0 _ g s0_0 x1001_1 x1002_1 from ii_ HI0) (rr_ HO_243000) (by decide)) hk (fun _ h => h.2)) (fun _ h => h.1)); have n1_ := Aside0.mk (KeepBut.blk hk (g' := gb241) (o := .cells #[.slice none 0 0] 29 (0, 0)) (bb_ BK241) NB241_0.out (by simp)); have n2_ := Aside0.mk (KeepBut.blk hk (g' := gb242) (o := .cells #[u243000] 29 (0, 0)) (bb_ BK242) NB242_0.out (by simp)); have n3_ := Aside0.mk (KeepBut.trans (kk_ HK) hk (.inl rfl)); have n4_ := Aside0.mk (hb); have n5_ := Aside0.mk (hi); clear HO_243000 BK241 BK242 HK HB HI0; have HO_243000 := n0_; have BK241 := n1_; have BK242 := n2_; have HK := n3_; have HB := n4_; have HI0 := n5_; clear n0_ n1_ n2_ n3_ n4_ n5_; (try clear hb); (try clear hb2); (try clear hk); (try clear hi); have hnb98 := NB242_241.out; have hnc98 := NB241_242.out; have hnb99 := NB242_0.out; have hnc99 := NB0_242.out; have hcz100_0 : w97.cell? ⟨gb242, 0, none⟩ = some (u243000) := (blk_cell BK242.out 0).trans rfl; have hfz100_0 := blk_frozen BK242.out 0; obtain ⟨Ao101, co101, eo101⟩ := Kd.R_slice HO_243000.out; subst eo101) | ((with_reducible refine gate_callee (f := 65) rfl ?_); refine goesL_ (some 39) rfl rfl Try.func65 (by kernel_rfl) rfl #[.pointer (some ⟨g, 0, none⟩), .int .i64 (x243000_1.length : Int)] rfl (by (try simp only [List.map_toArray, List.map_cons, List.map_nil]); first | done | rfl | (simp only [List.length_drop, List.length_take]; rfl)) ?_; (with_reducible refine (spec_l01Below.calls g s0_0 t244 t245 (x243000_1.length : Int) t261 t262 t263 w0 _ ?side1 ?side2 A32.out).mono ?_); (case side1 => exact ii_ HI0); (case side2 => exact hj_ HB); rintro e w102 ⟨rfl, hi, hb, hk⟩; refine ⟨_, rfl, ?_⟩; have n0_ := Aside0.mk (Kd.R_mono (Kd.R_keep (IsS101.apart (show IsS101 w0 _ g s0_0 t244 t245 from ii_ HI0) (rr_ HO_243000) (by decide)) hk (fun _ h => h.2)) (fun _ h => h.1)); have n1_ := Aside0.mk (KeepBut.blk hk (g' := gb241) (o := .cells #[.slice none 0 0] 29 (0, 0)) (bb_ BK241) NB241_0.out (by simp)); have n2_ := Aside0.mk (KeepBut.blk hk (g' := gb242) (o := .cells #[.slice Ao101 x243000_1.length co101] 29 (0, 0)) (bb_ BK242) NB242_0.out (by simp)); have n3_ := Aside0.mk (KeepBut.trans (kk_ HK) hk (.inl rfl)); have n4_ := Aside0.mk (hb); have n5_ := Aside0.mk (hi); clear HO_243000 BK241 BK242 HK HB HI0; have HO_243000 := n0_; have BK241 := n1_; have BK242 := n2_; have HK := n3_; have HB := n4_; have HI0 := n5_; clear n0_ n1_ n2_ n3_ n4_ n5_; (try clear hb); (try clear hb2); (try clear hk); (try clear hi)) | ((with_reducible refine gate_callee (f := 65) rfl ?_); refine goesL_ (some 41) rfl rfl Try.func65 (by kernel_rfl) rfl #[.pointer (some ⟨g, 0, none⟩), .int .i64 40] rfl (by (try simp only [List.map_toArray, List.map_cons, List.map_nil]); first | done | rfl | (simp only [List.length_drop, List.length_take]; rfl)) ?_; (with_reducible refine (spec_l01Below.calls g s0_0 t262 t263 40 t264 t265 t266 w0 _ ?side1 ?side2 A33.out).mono ?_); (case side1 => exact ii_ HI0); (case side2 => exact hj_ HB); rintro e w103 ⟨rfl, hi, hb, hk⟩; refine ⟨_, rfl, ?_⟩; have n0_ := Aside0.mk (Kd.R_mono (Kd.R_keep (IsS101.apart (show IsS101 w0 _ g s0_0 t262 t263 from ii_ HI0) (rr_ HO_243000) (by decide)) hk (fun _ h => h.2)) (fun _ h => h.1)); have n1_ := Aside0.mk (KeepBut.blk hk (g' := gb241) (o := .cells #[.slice none 0 0] 29 (0, 0)) (bb_ BK241) NB241_0.out (by simp)); have n2_ := Aside0.mk (KeepBut.blk hk (g' := gb242) (o := .cells #[.slice Ao101 x243000_1.length co101] 29 (0, 0)) (bb_ BK242) NB242_0.out (by simp)); have n3_ := Aside0.mk (KeepBut.trans (kk_ HK) hk (.inl rfl)); have n4_ := Aside0.mk (hb); have n5_ := Aside0.mk (hi); clear HO_243000 BK241 BK242 HK HB HI0; have HO_243000 := n0_; have BK241 := n1_; have BK242 := n2_; have HK := n3_; have HB := n4_; have HI0 := n5_; clear n0_ n1_ n2_ n3_ n4_ n5_; (try clear hb); (try clear hb2); (try clear hk); (try clear hi)) | ((with_reducible refine gate_dst (N := 84) rfl ?_); refine Kd.R_lit k67 _ 67 ?hg (N := 84) ?hd (xs := ([] : List (S67))) (inner := []) (ok := fun _ => True) (okp := fun _ => True) ?hr ?hp (fun _ hk => hk) trivial (Below.refl _ _) (Nat.le_refl _) (by simp) ?_; (case hd => rfl); (case hg => rfl); (case hr => first | (go_simp; done) | (go_simp; rfl)); (case hp => exact (Reps.none _ _)); intro v287 w104 ho105 hb hg_ hnew_; clear hg_ hnew_; (first | rw [← Ny286.out] at ho105 | (simp only [Int.reduceToNat] at ho105; rw [← Ny286.out] at ho105)); have n0_ := Aside0.mk (Kd.R_elder' (rr_ HO_243000) (Kd.R_base ho105) hb); have n1_ := Aside0.mk (Kd.R_lower (Kd.R_new' ho105 (Kd.R_lt (rr_ HO_243000))) (keep_size (w := w) (g := g) (row := none) (kk_ HK))); have n2_ := Aside0.mk (blk_below (bb_ BK241) hb); have n3_ := Aside0.mk (blk_below (bb_ BK242) hb); have n4_ := Aside0.mk (IsS101.below (ii_ HI0) hb); have n5_ := Aside0.mk (KeepBut.trans (kk_ HK) (KeepBut.of_below hb g none) (.inl rfl)); have n6_ := Aside0.mk (below_step (hj_ HB) hb); clear HO_243000 BK241 BK242 HI0 HK HB; have HO_243000 := n0_; have HO288 := n1_; have BK241 := n2_; have BK242 := n3_; have HI0 := n4_; have HK := n5_; have HB := n6_; clear n0_ n1_ n2_ n3_ n4_ n5_ n6_ hb ho105; obtain ⟨Ao106, co106, eo106⟩ := Kd.R_slice HO288.out; subst eo106; have hcz107_0 : w104.cell? ⟨gb242, 0, none⟩ = some (.slice Ao101 x243000_1.length co101) := (blk_cell BK242.out 0).trans rfl; have hfz107_0 := blk_frozen BK242.out 0))
         go_loopg [7] k1 (fun kq v7 w' => ∃ (x7_2 : Int) (x1001_2 : Int) (x1002_2 : Int) (x243000_2 : List (S67)) (u243000 : Value), v7 = .int .i64 x7_2 ∧ Aside0 (spec_l03Disk.l1 kq x7_2 s0_0 x1001_2 x1002_2 x243000_2 = some (r1, r2, r3)) ∧ Aside0 (kq ≤ k1) ∧ Aside0 (Kd.R k67 67 w' w.heap.size (fun _ => True) u243000 x243000_2) ∧ Aside0 (w'.heap[gb241]? = some (.cells #[(.slice none 0 0)] 29 (0, 0))) ∧ Aside0 (w'.heap[gb242]? = some (.cells #[u243000] 29 (0, 0))) ∧ Aside0 (IsS101 w0 w' g s0_0 x1001_2 x1002_2) ∧ Aside0 (KeepBut w w' g none) ∧ Aside0 (Below w0.heap.size w0 w'))
         case atStart => exact ⟨(0), (t265), (t266), (y286), (.slice Ao106 y286.length co106), (by first | rfl | (simp; done) | (simp [*]; done)), H', ⟨Nat.le_refl _⟩, ⟨by (with_reducible repeat (first | apply Kd.R_alloc | apply Kd.R_drewN | apply Kd.R_drew)); exact Kd.R_mono (Kd.R_far (p := ⟨gb242, 0, none⟩) (Kd.R_types HO288.out BK242.out (by decide)) (fun _ hk => hk.2) (.slice Ao106 y286.length co106)) (fun _ hk => trivial)⟩, ⟨by (with_reducible repeat (first | refine blk_drewN ?_ _ | refine blk_drew ?_ | refine blk_alloc ?_ _)); refine blk_far ?_ NB241_242.out _; exact bb_ BK241⟩, ⟨by (with_reducible repeat (first | refine blk_drewN ?_ _ | refine blk_drew ?_ | refine blk_alloc ?_ _)); refine blk_put (cs := #[.slice Ao101 x243000_1.length co101]) ?_ 0 _ rfl; exact bb_ BK242⟩, ⟨ii_ HI0⟩, ⟨kk_ HK⟩, ⟨hj_ HB⟩⟩
         case round =>
          clear H'
          try clear p2
          try clear q2
          try clear hx2
          try clear c3
          try clear p3
          try clear q3
          try clear hx3
          try clear hf3
          try clear c5
          try clear c6
          try clear c7
          try clear p7
          try clear q7
          try clear hx7
          try clear hf7
          try clear c8
          try clear c9
          try clear hx26
          try clear p27
          try clear q27
          try clear hx27
          try clear c34
          try clear c34b0
          try clear c34b1
          try clear c35
          try clear c36
          try clear c38
          try clear p38
          try clear q38
          try clear hx38
          try clear hf38
          try clear c51
          try clear c54
          try clear c56
          try clear c56b0
          try clear c56b1
          try clear c57
          try clear c57b0
          try clear c58
          try clear c58b0
          try clear c59
          try clear c61
          try clear c62
          try clear c65
          try clear c72
          try clear c74
          try clear c74b0
          try clear c74b1
          try clear c76
          try clear c76b0
          try clear c77
          try clear c77b0
          try clear c78
          try clear p78
          try clear q78
          try clear hx78
          try clear hf78
          try clear c80
          try clear c81
          try clear c91
          try clear c94
          try clear c96
          try clear c96b0
          try clear c96b1
          try clear c98
          try clear c99
          try clear hcz100_0
          try clear hcz107_0
          try clear hcz53_0
          try clear hcz55_0
          try clear hcz63_0
          try clear hcz71_0
          try clear hcz73_0
          try clear hcz82_0
          try clear hcz93_0
          try clear hcz95_0
          try clear hfz100_0
          try clear hfz107_0
          try clear hfz53_0
          try clear hfz55_0
          try clear hfz63_0
          try clear hfz71_0
          try clear hfz73_0
          try clear hfz82_0
          try clear hfz93_0
          try clear hfz95_0
          try clear hx267_0
          try clear hx267_1
          try clear hx267_2
          try clear hx275_0
          try clear hx275_1
          try clear hx275_2
          try clear hx38_0
          try clear hx38_1
          try clear hx38_2
          try clear hx78_0
          try clear hx78_1
          try clear hx78_2
          try clear p275
          try clear p38
          try clear p78
          try clear q275
          try clear q38
          try clear q78
          obtain ⟨x7_2, x1001_2, x1002_2, x243000_2, u243000, rfl, HA, HK2, HO_243000, BK241, BK242, HI0, HK, HB⟩ := hrel
          cases gk with
          | zero => exact absurd HA.out (by simp [spec_l03Disk.l1])
          | succ k2 =>
           have H := HA.out
           clear HA
           simp only [spec_l03Disk.l1] at H
           replace H := Option.bind_eq_some_iff.mp H
           obtain ⟨⟨t289, t290, t291⟩, A1080, H⟩ := H
           replace H : (if x7_2 < (wrap64 (30 + t289)) then ((spec_Decimal.f k2 (wrap64 (100 + x7_2))).bind fun t292 => (if 1 + t292.size ≤ 9223372036854775807 then (if x243000_2.length < 3518437208883 then (spec_l03Disk.l1 k2 (wrap64 (x7_2 + 1)) s0_0 t290 t291 (x243000_2 ++ [(⟨(⟨#[102]⟩ : ByteArray) ++ t292, (⟨#[]⟩ : ByteArray), 0⟩ : S67)])) else (none)) else (none))) else (some (x243000_2, t290, t291))) = some (r1, r2, r3) := H
           have A108 := Aside0.mk A1080
           clear A1080
           by_cases c109 : x7_2 < (wrap64 (30 + t289))
           ·rw [if_pos c109] at H
            have c109b0 : decide (x7_2 < (wrap64 (30 + t289))) = true := decide_eq_true c109
            clear c109
            replace H := Option.bind_eq_some_iff.mp H
            obtain ⟨t292, A1100, H⟩ := H
            replace H : (if 1 + t292.size ≤ 9223372036854775807 then (if x243000_2.length < 3518437208883 then (spec_l03Disk.l1 k2 (wrap64 (x7_2 + 1)) s0_0 t290 t291 (x243000_2 ++ [(⟨(⟨#[102]⟩ : ByteArray) ++ t292, (⟨#[]⟩ : ByteArray), 0⟩ : S67)])) else (none)) else (none)) = some (r1, r2, r3) := H
            have A110 := Aside0.mk A1100
            clear A1100
            by_cases c111 : 1 + t292.size ≤ 9223372036854775807
            ·rw [if_pos c111] at H
             have c111b0 := eq_true c111
             have c111b1 : decide (1 + t292.size ≤ 9223372036854775807) = true := decide_eq_true c111
             try have c111b2 : (9223372036854775807 < 1 + t292.size) = False := eq_false (Nat.not_lt.2 c111)
             by_cases c112 : x243000_2.length < 3518437208883
             ·rw [if_pos c112] at H
              have LMc112 := Aside0.mk c112
              clear c112
              obtain ⟨y293, hy293⟩ : ∃ y_ : List (S67), y_ = (x243000_2 ++ [(⟨(⟨#[102]⟩ : ByteArray) ++ t292, (⟨#[]⟩ : ByteArray), 0⟩ : S67)]) := ⟨_, rfl⟩
              replace H : (spec_l03Disk.l1 k2 (wrap64 (x7_2 + 1)) s0_0 t290 t291 y293) = some (r1, r2, r3) := by first | (rw [hy293]; with_reducible exact H) | (have H2_ := (Option.bind_some _ _).symm.trans H; rw [hy293]; with_reducible exact H2_) | (have H2_ := (Option.bind_some _ _).symm.trans H; with_reducible exact H2_) | with_reducible exact H | (rw [hy293]; exact H) | exact H
              have Ny293 := Aside0.mk hy293
              clear hy293
              have H' := Aside0.mk H
              clear H
              try go_wp2_with (first | ((with_reducible refine gate_callee (f := 65) rfl ?_); refine goesL_ (some 88) rfl rfl Try.func65 (by kernel_rfl) rfl #[.pointer (some ⟨g, 0, none⟩), .int .i64 2] rfl (by (try simp only [List.map_toArray, List.map_cons, List.map_nil]); first | done | rfl | (simp only [List.length_drop, List.length_take]; rfl)) ?_; (with_reducible refine (spec_l01Below.calls g s0_0 x1001_2 x1002_2 2 t289 t290 t291 w0 _ ?side1 ?side2 A108.out).mono ?_); (case side1 => exact ii_ HI0); (case side2 => exact hj_ HB); rintro e w113 ⟨rfl, hi, hb, hk⟩; refine ⟨_, rfl, ?_⟩; have n0_ := Aside0.mk (Kd.R_mono (Kd.R_keep (IsS101.apart (show IsS101 w0 _ g s0_0 x1001_2 x1002_2 from ii_ HI0) (rr_ HO_243000) (by decide)) hk (fun _ h => h.2)) (fun _ h => h.1)); have n1_ := Aside0.mk (KeepBut.blk hk (g' := gb241) (o := .cells #[.slice none 0 0] 29 (0, 0)) (bb_ BK241) NB241_0.out (by simp)); have n2_ := Aside0.mk (KeepBut.blk hk (g' := gb242) (o := .cells #[u243000] 29 (0, 0)) (bb_ BK242) NB242_0.out (by simp)); have n3_ := Aside0.mk (KeepBut.trans (kk_ HK) hk (.inl rfl)); have n4_ := Aside0.mk (hb); have n5_ := Aside0.mk (hi); clear HO_243000 BK241 BK242 HK HB HI0; have HO_243000 := n0_; have BK241 := n1_; have BK242 := n2_; have HK := n3_; have HB := n4_; have HI0 := n5_; clear n0_ n1_ n2_ n3_ n4_ n5_; (try clear hb); (try clear hb2); (try clear hk); (try clear hi)))
              have n0_ := Aside0.mk (Kd.R_drew HO_243000.out)
              have n1_ := Aside0.mk (blk_drew BK241.out)
              have n2_ := Aside0.mk (blk_drew BK242.out)
              have n3_ := Aside0.mk (IsS101.drew HI0.out)
              have n4_ := Aside0.mk (keep_drew HK.out)
              have n5_ := Aside0.mk (below_drew1 HB.out)
              clear HO_243000 BK241 BK242 HI0 HK HB
              have HO_243000 := n0_; have BK241 := n1_; have BK242 := n2_; have HI0 := n3_; have HK := n4_; have HB := n5_
              clear n0_ n1_ n2_ n3_ n4_ n5_
              refine start_ (n := 11) (S := fun w' => w'.cell? ⟨gb242, 0, none⟩ = some (u243000)) (ds := [10]) #[false, false, false, false, false, false, false, false, false, false, false] (by kernel_rfl) rfl rfl ((blk_cell BK242.out 0).trans rfl) (fun hHeld => ?_); refine with_tabW spec_l03Disk.tab22 spec_l03Disk.bits22 (fun HT_ HW_ => ?_)
              generalize w113.drew = w114 at HO_243000 BK241 BK242 HI0 HK HB hHeld ⊢
              refine pure_ (i := 0) (N := some 93) (v := ?_) (a' := ?_) #[true, false, false, false, false, false, false, false, false, false, false] rfl rfl (any_of HT_.out (by kernel_rfl)) (fun _ _ _ h => h) (Or.inl ⟨by rfl, ?_⟩) ?_ ?_
              rotate_left
              ·intro w'
               go_simp
               with_reducible rfl
              rotate_left
              ·simp only [Act.put, List.setIfInBounds_toArray, List.set_cons_zero, List.set_cons_succ, i64_w, i32_w]
               rfl
              refine pure_ (i := 2) (N := some 95) (v := ?_) (a' := ?_) #[true, false, true, false, false, false, false, false, false, false, false] rfl rfl (any_of HT_.out (by kernel_rfl)) (fun _ _ _ h => h) (Or.inl ⟨by rfl, ?_⟩) ?_ ?_
              rotate_left
              ·intro w'
               go_simp
               with_reducible rfl
              rotate_left
              ·simp only [Act.put, List.setIfInBounds_toArray, List.set_cons_zero, List.set_cons_succ, i64_w, i32_w]
               rfl
              refine pure_ (i := 3) (N := some 96) (v := ?_) (a' := ?_) #[true, false, true, true, false, false, false, false, false, false, false] rfl rfl (any_of HT_.out (by kernel_rfl)) (fun _ _ _ h => h) (Or.inl ⟨by rfl, ?_⟩) ?_ ?_
              rotate_left
              ·intro w'
               go_simp
               with_reducible rfl
              rotate_left
              ·simp only [Act.put, List.setIfInBounds_toArray, List.set_cons_zero, List.set_cons_succ, i64_w, i32_w]
               rfl
              refine take_ (i := 1) (N := some 94) (v := ?_) (a' := ?_) #[true, true, true, true, false, false, false, false, false, false, false] rfl rfl (take_ofW HT_.out HW_.out (by kernel_rfl)) (fun _ _ _ h => h) (Or.inl ⟨by rfl, ?_⟩) hHeld ?_ ?_
              rotate_left
              ·intro w' s0
               go_simp
               with_reducible rfl
              rotate_left
              ·simp only [Act.put, List.setIfInBounds_toArray, List.set_cons_zero, List.set_cons_succ, i64_w, i32_w]
               rfl
              refine one_ (i := 4) (N := some 97) #[true, true, true, true, true, false, false, false, false, false, false] rfl rfl (one_of HT_.out (by kernel_rfl)) (by decide) (fun K hK => ?_)
              refine goes_ Try.func78 (by kernel_rfl) rfl #[.int .i64 (wrap64 (100 + x7_2))] (by rfl) rfl rfl (by (try simp only [List.map_toArray, List.map_cons, List.map_nil]); first | done | rfl | (simp only [List.length_drop, List.length_take]; rfl)) ?_
              with_reducible refine (spec_Decimal.calls k2 (wrap64 (100 + x7_2)) t292 _ A110.out).mono ?_
              rintro e w115 ⟨rfl, hb⟩
              refine ⟨_, rfl, ?_⟩
              have n0_ := Aside0.mk (Kd.R_below HO_243000.out hb)
              have n1_ := Aside0.mk (blk_below BK241.out hb)
              have n2_ := Aside0.mk (blk_below BK242.out hb)
              have n3_ := Aside0.mk (IsS101.below (ii_ HI0) hb)
              have n4_ := Aside0.mk (KeepBut.trans (kk_ HK) (KeepBut.of_below hb g none) (.inl rfl))
              have n5_ := Aside0.mk (below_step (hj_ HB) hb)
              clear HO_243000 BK241 BK242 HI0 HK HB
              have HO_243000 := n0_; have BK241 := n1_; have BK242 := n2_; have HI0 := n3_; have HK := n4_; have HB := n5_
              clear n0_ n1_ n2_ n3_ n4_ n5_
              (try clear hb); (try clear hb2); (try clear hk); (try clear hi)
              refine hK.out _ _ ((blk_cell BK242.out 0).trans rfl) (fun hHeld => ?_)
              clear hK K
              refine norm_ (a' := ?_) ?_ ?_
              rotate_left
              ·show Act.put _ (some 97) _ = _
               simp only [Act.put, List.setIfInBounds_toArray, List.set_cons_zero, List.set_cons_succ, i64_w, i32_w]
               rfl
              refine pure_ (i := 5) (N := some 98) (v := ?_) (a' := ?_) #[true, true, true, true, true, true, false, false, false, false, false] rfl rfl (any_of HT_.out (by kernel_rfl)) (fun _ _ _ h => h) (Or.inl ⟨by rfl, ?_⟩) ?_ ?_
              rotate_left
              ·intro w'
               go_simp
               with_reducible rfl
              rotate_left
              ·simp only [Act.put, List.setIfInBounds_toArray, List.set_cons_zero, List.set_cons_succ, i64_w, i32_w]
               rfl
              refine pure_ (i := 6) (N := some 99) (v := ?_) (a' := ?_) #[true, true, true, true, true, true, true, false, false, false, false] rfl rfl (any_of HT_.out (by kernel_rfl)) (fun _ _ _ h => h) (Or.inl ⟨by rfl, ?_⟩) ?_ ?_
              rotate_left
              ·intro w'
               go_simp
               with_reducible rfl
              rotate_left
              ·simp only [Act.put, List.setIfInBounds_toArray, List.set_cons_zero, List.set_cons_succ, i64_w, i32_w]
               rfl
              refine one_ (i := 7) (N := some 100) #[true, true, true, true, true, true, true, true, false, false, false] rfl rfl (one_of HT_.out (by kernel_rfl)) (by decide) (fun K hK => ?_)
              refine value_ (w1 := ?_) (v := ?_) (by rfl) rfl ?_ ?_
              rotate_left 2
              ·go_simp
               constructor
               ·rfl
               ·rfl
              refine hK.out _ _ ((blk_cell (blk_alloc BK242.out _) 0).trans rfl) (fun hHeld => ?_)
              clear hK K
              refine norm_ (a' := ?_) ?_ ?_
              rotate_left
              ·show Act.put _ (some 100) _ = _
               simp only [Act.put, List.setIfInBounds_toArray, List.set_cons_zero, List.set_cons_succ, i64_w, i32_w]
               rfl
              refine one_ (i := 8) (N := some 101) #[true, true, true, true, true, true, true, true, true, false, false] rfl rfl (one_of HT_.out (by kernel_rfl)) (by decide) (fun K hK => ?_)
              refine Kd.R_append_step k67 w.heap.size (by rfl) (.tmp 94) (.tmp 100) 27 67 (.agg #[(.string ⟨#[]⟩), (.string ⟨#[]⟩), (.int .i64 0)]) 40 rfl Try.underlying27 info67 rfl (by decide) (by omega) u243000 x243000_2 (⟨(⟨#[102]⟩ : ByteArray) ++ t292, (⟨#[]⟩ : ByteArray), 0⟩ : S67) [.string ((⟨#[102]⟩ : ByteArray) ++ t292), .string (⟨#[]⟩ : ByteArray), .int .i64 0] (fun _ => True) (fun _ => False) rfl rfl ?aP (fun _ hk => hk.elim) ?aF ?aO (Below.refl _ _) ?aS ?aL ?_
              (case aP => exact k67_mkM _ _ _ (⟨(⟨#[102]⟩ : ByteArray) ++ t292, (⟨#[]⟩ : ByteArray), 0⟩ : S67))
              (case aF => exact (fun _ _ => trivial))
              (case aO => exact HO_243000.out)
              (case aS => exact (keep_size (w := w) (g := g) (row := none) (kk_ HK)))
              (case aL => have := LMc112.out; omega)
              intro v294 w116 ho hb hg hat
              rw [← Ny293.out] at ho
              have n0_ := Aside0.mk (blk_grown (g := gb241) (o := .cells #[.slice none 0 0] 29 (0, 0)) BK241.out hg (Kd.R_ne HO_243000.out BK241.out (by decide)))
              have n1_ := Aside0.mk (blk_grown (g := gb242) (o := .cells #[u243000] 29 (0, 0)) BK242.out hg (Kd.R_ne HO_243000.out BK242.out (by decide)))
              have n2_ := Aside0.mk (IsS101.grown (ii_ HI0) hg (IsS101.own_ne HI0.out HO_243000.out (by decide)))
              have n3_ := Aside0.mk (below_weaken (hj_ HB) HL.out hb)
              have n4_ := Aside0.mk (KeepBut.trans (kk_ HK) (KeepBut.of_grown hg g) (Kd.R_base2 HO_243000.out))
              have n5_ := Aside0.mk (ho)
              clear BK241 BK242 HI0 HB HK HO_243000
              have BK241 := n0_; have BK242 := n1_; have HI0 := n2_; have HB := n3_; have HK := n4_; have HO295 := n5_
              clear n0_ n1_ n2_ n3_ n4_ n5_ ho hb hg hat
              obtain ⟨Ao117, co117, eo117⟩ := Kd.R_slice HO295.out
              (first | subst eo117 | (injection eo117 with f1_ f2_ f3_; have f4_ := f1_.symm; have f5_ := f3_.symm; clear f1_ f2_ f3_; subst f4_; subst f5_))
              refine hK.out _ _ ((blk_cell BK242.out 0).trans rfl) (fun hHeld => ?_)
              clear hK K
              refine norm_ (a' := ?_) ?_ ?_
              rotate_left
              ·show Act.put _ (some 101) _ = _
               simp only [Act.put, List.setIfInBounds_toArray, List.set_cons_zero, List.set_cons_succ, i64_w, i32_w]
               rfl
              refine pure_ (i := 9) (N := some 102) (v := ?_) (a' := ?_) #[true, true, true, true, true, true, true, true, true, true, false] rfl rfl (any_of HT_.out (by kernel_rfl)) (fun _ _ _ h => h) (Or.inl ⟨by rfl, ?_⟩) ?_ ?_
              rotate_left
              ·intro w'
               go_simp
               with_reducible rfl
              rotate_left
              ·simp only [Act.put, List.setIfInBounds_toArray, List.set_cons_zero, List.set_cons_succ, i64_w, i32_w]
               rfl
              refine last_ (i := 10) (N := none) #[true, true, true, true, true, true, true, true, true, true, true] rfl rfl (one_of HT_.out (by kernel_rfl)) (by decide) (fun K hK => ?_)
              have hs118 : w116.cell? ⟨gb242, 0, none⟩ = some (u243000) := (blk_cell BK242.out 0).trans rfl
              have hfs118 := blk_frozen BK242.out 0
              have hns118_0 := NB241_242.out; have hms118_0 := NB242_241.out
              refine skip_ (w1 := ?_) (by rfl) rfl ?_ ?_
              rotate_left
              ·go_simp
               rfl
              refine hK.out _ _ ?_
              clear hK K
              refine done_ (done_of HT_.out (by kernel_rfl)) ?_
              try go_wp2
              go_roundg k2
              case measure => have := HK1.out; have := HK2.out; omega
              case rel => exact ⟨(wrap64 (x7_2 + 1)), (t290), (t291), (y293), (.slice Ao117 y293.length co117), (by first | rfl | (simp; done) | (simp [*]; done)), H', ⟨by have := HK1.out; have := HK2.out; omega⟩, ⟨by (with_reducible repeat (first | apply Kd.R_alloc | apply Kd.R_drewN | apply Kd.R_drew)); exact Kd.R_mono (Kd.R_far (p := ⟨gb242, 0, none⟩) (Kd.R_types HO295.out BK242.out (by decide)) (fun _ hk => hk.2) (.slice Ao117 y293.length co117)) (fun _ hk => trivial)⟩, ⟨by (with_reducible repeat (first | refine blk_drewN ?_ _ | refine blk_drew ?_ | refine blk_alloc ?_ _)); refine blk_far ?_ NB241_242.out _; exact bb_ BK241⟩, ⟨by (with_reducible repeat (first | refine blk_drewN ?_ _ | refine blk_drew ?_ | refine blk_alloc ?_ _)); refine blk_put (cs := #[u243000]) ?_ 0 _ rfl; exact bb_ BK242⟩, ⟨ii_ HI0⟩, ⟨kk_ HK⟩, ⟨hj_ HB⟩⟩
             ·rw [if_neg c112] at H
              exact absurd H (by simp)
            ·rw [if_neg c111] at H
             exact absurd H (by simp)
           ·rw [if_neg c109] at H
            have c109b0 : decide (x7_2 < (wrap64 (30 + t289))) = false := decide_eq_false c109
            clear c109
            simp only [Option.some.injEq, Prod.mk.injEq] at H
            obtain ⟨rfl, rfl, rfl⟩ := H
            go_wp2_with (first | ((with_reducible refine gate_callee (f := 65) rfl ?_); refine goesL_ (some 88) rfl rfl Try.func65 (by kernel_rfl) rfl #[.pointer (some ⟨g, 0, none⟩), .int .i64 2] rfl (by (try simp only [List.map_toArray, List.map_cons, List.map_nil]); first | done | rfl | (simp only [List.length_drop, List.length_take]; rfl)) ?_; (with_reducible refine (spec_l01Below.calls g s0_0 x1001_2 x1002_2 2 t289 t290 t291 w0 _ ?side1 ?side2 A108.out).mono ?_); (case side1 => exact ii_ HI0); (case side2 => exact hj_ HB); rintro e w119 ⟨rfl, hi, hb, hk⟩; refine ⟨_, rfl, ?_⟩; have n0_ := Aside0.mk (Kd.R_mono (Kd.R_keep (IsS101.apart (show IsS101 w0 _ g s0_0 x1001_2 x1002_2 from ii_ HI0) (rr_ HO_243000) (by decide)) hk (fun _ h => h.2)) (fun _ h => h.1)); have n1_ := Aside0.mk (KeepBut.blk hk (g' := gb241) (o := .cells #[.slice none 0 0] 29 (0, 0)) (bb_ BK241) NB241_0.out (by simp)); have n2_ := Aside0.mk (KeepBut.blk hk (g' := gb242) (o := .cells #[u243000] 29 (0, 0)) (bb_ BK242) NB242_0.out (by simp)); have n3_ := Aside0.mk (KeepBut.trans (kk_ HK) hk (.inl rfl)); have n4_ := Aside0.mk (hb); have n5_ := Aside0.mk (hi); clear HO_243000 BK241 BK242 HK HB HI0; have HO_243000 := n0_; have BK241 := n1_; have BK242 := n2_; have HK := n3_; have HB := n4_; have HI0 := n5_; clear n0_ n1_ n2_ n3_ n4_ n5_; (try clear hb); (try clear hb2); (try clear hk); (try clear hi); have hnb120 := NB242_241.out; have hnc120 := NB241_242.out; have hnb121 := NB242_0.out; have hnc121 := NB0_242.out; have hcz122_0 : w119.cell? ⟨gb242, 0, none⟩ = some (u243000) := (blk_cell BK242.out 0).trans rfl; have hfz122_0 := blk_frozen BK242.out 0; obtain ⟨Ao123, co123, eo123⟩ := Kd.R_slice HO_243000.out; subst eo123; have hnb124 := NB241_0.out; have hnc124 := NB0_241.out; have hcz125_0 : w119.cell? ⟨gb241, 0, none⟩ = some (.slice none 0 0) := (blk_cell BK241.out 0).trans rfl; have hfz125_0 := blk_frozen BK241.out 0))
            refine bodyPost_ret (results_cell_row rfl _ _ gb241 29 #[.slice Ao123 x243000_2.length co123] (0, 0) _ rfl (by (with_reducible repeat (first | refine blk_drewN ?_ _ | refine blk_drew ?_ | refine blk_alloc ?_ _)); refine blk_put (cs := #[.slice none 0 0]) ?_ 0 _ rfl; exact bb_ BK241) Try.underlying29 rfl (by kernel_rfl)) rfl ?_
            exact ⟨_, by first | rfl | (simp [errW_none, errW_some] <;> rfl) | (simp [*, errW_none, errW_some] <;> rfl), by (with_reducible repeat (first | apply Kd.R_alloc | apply Kd.R_drewN | apply Kd.R_drew)); exact Kd.R_mono (Kd.R_far (p := ⟨gb241, 0, none⟩) (Kd.R_types HO_243000.out BK241.out (by decide)) (fun _ hk => hk.2) (.slice Ao123 x243000_2.length co123)) (fun _ hk => trivial), by repeat (first | (with_reducible first | exact HI0.out | apply IsS101.alloc | apply IsS101.drewN | apply IsS101.drew | apply IsS101.set_1 | apply IsS101.set_2 | refine IsS101.far ?_ NB0_241.out _ | refine IsS101.far ?_ NB0_242.out _) | exact HI0.out), by repeat (first | (with_reducible first | exact HB.out | apply below_alloc | apply pw_below_drewN | apply below_drew1 | refine below_set ?_ (IsS101.ge HI0.out) | refine below_set ?_ GE241.out | refine below_set ?_ GE242.out) | exact HB.out), by repeat (first | (with_reducible first | exact HK.out | apply KeepBut.set_ | apply keep_drewN | apply keep_drew | apply keep_alloc | refine keep_far ?_ GW241.out _ | refine keep_far ?_ GW242.out _) | exact HK.out)⟩
        ·rw [if_neg c96] at H
         have c96b0 : (t264 == 3) = false := beq_eq_false_iff_ne.mpr c96
         have c96b1 : (t264 != 3) = true := bne_iff_ne.mpr c96
         by_cases c126 : t264 = 4
         ·rw [if_pos c126] at H
          have c126b0 : (t264 == 4) = true := beq_iff_eq.mpr c126
          have c126b1 : (t264 != 4) = false := bne_eq_false_iff_eq.mpr c126
          clear c126
          replace H := Option.bind_eq_some_iff.mp H
          obtain ⟨⟨t296, t297, t298⟩, A1270, H⟩ := H
          replace H : ((spec_l01Long.f k1 (wrap64 (19999 + t296)) 65).bind fun t299 => (if 0 ≤ t261 then (if t261 < (x243000_1.length : Int) then (some ((x243000_1.set (t261 : Int).toNat (⟨(rd_T67 x243000_1 t261).f0, t299, (rd_T67 x243000_1 t261).f2⟩ : S67)), t297, t298)) else (none)) else (none))) = some (r1, r2, r3) := H
          have A127 := Aside0.mk A1270
          clear A1270
          replace H := Option.bind_eq_some_iff.mp H
          obtain ⟨t299, A1280, H⟩ := H
          replace H : (if 0 ≤ t261 then (if t261 < (x243000_1.length : Int) then (some ((x243000_1.set (t261 : Int).toNat (⟨(rd_T67 x243000_1 t261).f0, t299, (rd_T67 x243000_1 t261).f2⟩ : S67)), t297, t298)) else (none)) else (none)) = some (r1, r2, r3) := H
          have A128 := Aside0.mk A1280
          clear A1280
          by_cases c129 : 0 ≤ t261
          ·rw [if_pos c129] at H
           have c129b0 : decide (0 ≤ t261) = true := decide_eq_true c129
           clear c129
           by_cases c130 : t261 < (x243000_1.length : Int)
           ·rw [if_pos c130] at H
            have c130b0 : decide (t261 < (x243000_1.length : Int)) = true := decide_eq_true c130
            clear c130
            obtain ⟨y300, hy300⟩ : ∃ y_ : List (S67), y_ = (x243000_1.set (t261 : Int).toNat (⟨(rd_T67 x243000_1 t261).f0, t299, (rd_T67 x243000_1 t261).f2⟩ : S67)) := ⟨_, rfl⟩
            replace H : (some (y300, t297, t298)) = some (r1, r2, r3) := by first | (rw [hy300]; with_reducible exact H) | (have H2_ := (Option.bind_some _ _).symm.trans H; rw [hy300]; with_reducible exact H2_) | (have H2_ := (Option.bind_some _ _).symm.trans H; with_reducible exact H2_) | with_reducible exact H | (rw [hy300]; exact H) | exact H
            have Ny300 := Aside0.mk hy300
            clear hy300
            simp only [Option.some.injEq, Prod.mk.injEq] at H
            obtain ⟨rfl, rfl, rfl⟩ := H
            try go_wp2_with (first | ((with_reducible refine gate_callee (f := 65) rfl ?_); refine goesL_ (some 11) rfl rfl Try.func65 (by kernel_rfl) rfl #[.pointer (some ⟨g, 0, none⟩), .int .i64 6] rfl (by (try simp only [List.map_toArray, List.map_cons, List.map_nil]); first | done | rfl | (simp only [List.length_drop, List.length_take]; rfl)) ?_; (with_reducible refine (spec_l01Below.calls g s0_0 x1001_1 x1002_1 6 t243 t244 t245 w0 _ ?side1 ?side2 A7.out).mono ?_); (case side1 => exact ii_ HI0); (case side2 => exact hj_ HB); rintro e w132 ⟨rfl, hi, hb, hk⟩; refine ⟨_, rfl, ?_⟩; have n0_ := Aside0.mk (Kd.R_mono (Kd.R_keep (IsS101.apart (show IsS101 w0 _ g s0_0 x1001_1 x1002_1 from ii_ HI0) (rr_ HO_243000) (by decide)) hk (fun _ h => h.2)) (fun _ h => h.1)); have n1_ := Aside0.mk (KeepBut.blk hk (g' := gb241) (o := .cells #[.slice none 0 0] 29 (0, 0)) (bb_ BK241) NB241_0.out (by simp)); have n2_ := Aside0.mk (KeepBut.blk hk (g' := gb242) (o := .cells #[u243000] 29 (0, 0)) (bb_ BK242) NB242_0.out (by simp)); have n3_ := Aside0.mk (KeepBut.trans (kk_ HK) hk (.inl rfl)); have n4_ := Aside0.mk (hb); have n5_ := Aside0.mk (hi); clear HO_243000 BK241 BK242 HK HB HI0; have HO_243000 := n0_; have BK241 := n1_; have BK242 := n2_; have HK := n3_; have HB := n4_; have HI0 := n5_; clear n0_ n1_ n2_ n3_ n4_ n5_; (try clear hb); (try clear hb2); (try clear hk); (try clear hi); have hnb133 := NB242_241.out; have hnc133 := NB241_242.out; have hnb134 := NB242_0.out; have hnc134 := NB0_242.out; have hcz135_0 : w132.cell? ⟨gb242, 0, none⟩ = some (u243000) := (blk_cell BK242.out 0).trans rfl; have hfz135_0 := blk_frozen BK242.out 0; obtain ⟨Ao136, co136, eo136⟩ := Kd.R_slice HO_243000.out; subst eo136) | ((with_reducible refine gate_callee (f := 65) rfl ?_); refine goesL_ (some 39) rfl rfl Try.func65 (by kernel_rfl) rfl #[.pointer (some ⟨g, 0, none⟩), .int .i64 (x243000_1.length : Int)] rfl (by (try simp only [List.map_toArray, List.map_cons, List.map_nil]); first | done | rfl | (simp only [List.length_drop, List.length_take]; rfl)) ?_; (with_reducible refine (spec_l01Below.calls g s0_0 t244 t245 (x243000_1.length : Int) t261 t262 t263 w0 _ ?side1 ?side2 A32.out).mono ?_); (case side1 => exact ii_ HI0); (case side2 => exact hj_ HB); rintro e w137 ⟨rfl, hi, hb, hk⟩; refine ⟨_, rfl, ?_⟩; have n0_ := Aside0.mk (Kd.R_mono (Kd.R_keep (IsS101.apart (show IsS101 w0 _ g s0_0 t244 t245 from ii_ HI0) (rr_ HO_243000) (by decide)) hk (fun _ h => h.2)) (fun _ h => h.1)); have n1_ := Aside0.mk (KeepBut.blk hk (g' := gb241) (o := .cells #[.slice none 0 0] 29 (0, 0)) (bb_ BK241) NB241_0.out (by simp)); have n2_ := Aside0.mk (KeepBut.blk hk (g' := gb242) (o := .cells #[.slice Ao136 x243000_1.length co136] 29 (0, 0)) (bb_ BK242) NB242_0.out (by simp)); have n3_ := Aside0.mk (KeepBut.trans (kk_ HK) hk (.inl rfl)); have n4_ := Aside0.mk (hb); have n5_ := Aside0.mk (hi); clear HO_243000 BK241 BK242 HK HB HI0; have HO_243000 := n0_; have BK241 := n1_; have BK242 := n2_; have HK := n3_; have HB := n4_; have HI0 := n5_; clear n0_ n1_ n2_ n3_ n4_ n5_; (try clear hb); (try clear hb2); (try clear hk); (try clear hi)) | ((with_reducible refine gate_callee (f := 65) rfl ?_); refine goesL_ (some 41) rfl rfl Try.func65 (by kernel_rfl) rfl #[.pointer (some ⟨g, 0, none⟩), .int .i64 40] rfl (by (try simp only [List.map_toArray, List.map_cons, List.map_nil]); first | done | rfl | (simp only [List.length_drop, List.length_take]; rfl)) ?_; (with_reducible refine (spec_l01Below.calls g s0_0 t262 t263 40 t264 t265 t266 w0 _ ?side1 ?side2 A33.out).mono ?_); (case side1 => exact ii_ HI0); (case side2 => exact hj_ HB); rintro e w138 ⟨rfl, hi, hb, hk⟩; refine ⟨_, rfl, ?_⟩; have n0_ := Aside0.mk (Kd.R_mono (Kd.R_keep (IsS101.apart (show IsS101 w0 _ g s0_0 t262 t263 from ii_ HI0) (rr_ HO_243000) (by decide)) hk (fun _ h => h.2)) (fun _ h => h.1)); have n1_ := Aside0.mk (KeepBut.blk hk (g' := gb241) (o := .cells #[.slice none 0 0] 29 (0, 0)) (bb_ BK241) NB241_0.out (by simp)); have n2_ := Aside0.mk (KeepBut.blk hk (g' := gb242) (o := .cells #[.slice Ao136 x243000_1.length co136] 29 (0, 0)) (bb_ BK242) NB242_0.out (by simp)); have n3_ := Aside0.mk (KeepBut.trans (kk_ HK) hk (.inl rfl)); have n4_ := Aside0.mk (hb); have n5_ := Aside0.mk (hi); clear HO_243000 BK241 BK242 HK HB HI0; have HO_243000 := n0_; have BK241 := n1_; have BK242 := n2_; have HK := n3_; have HB := n4_; have HI0 := n5_; clear n0_ n1_ n2_ n3_ n4_ n5_; (try clear hb); (try clear hb2); (try clear hk); (try clear hi)))
            have n0_ := Aside0.mk (Kd.R_drew HO_243000.out)
            have n1_ := Aside0.mk (blk_drew BK241.out)
            have n2_ := Aside0.mk (blk_drew BK242.out)
            have n3_ := Aside0.mk (IsS101.drew HI0.out)
            have n4_ := Aside0.mk (keep_drew HK.out)
            have n5_ := Aside0.mk (below_drew1 HB.out)
            clear HO_243000 BK241 BK242 HI0 HK HB
            have HO_243000 := n0_; have BK241 := n1_; have BK242 := n2_; have HI0 := n3_; have HK := n4_; have HB := n5_
            clear n0_ n1_ n2_ n3_ n4_ n5_
            refine start_ (n := 10) (S := fun w' => w'.cell? ⟨gb242, 0, none⟩ = some (.slice Ao136 x243000_1.length co136)) (ds := [9]) #[false, false, false, false, false, false, false, false, false, false] (by kernel_rfl) rfl rfl ((blk_cell BK242.out 0).trans rfl) (fun hHeld => ?_); refine with_tabW spec_l03Disk.tab24 spec_l03Disk.bits24 (fun HT_ HW_ => ?_)
            generalize w138.drew = w139 at HO_243000 BK241 BK242 HI0 HK HB hHeld ⊢
            refine pure_ (i := 0) (N := some 105) (v := ?_) (a' := ?_) #[true, false, false, false, false, false, false, false, false, false] rfl rfl (any_of HT_.out (by kernel_rfl)) (fun _ _ _ h => h) (Or.inl ⟨by rfl, ?_⟩) ?_ ?_
            rotate_left
            ·intro w'
             go_simp
             with_reducible rfl
            rotate_left
            ·simp only [Act.put, List.setIfInBounds_toArray, List.set_cons_zero, List.set_cons_succ, i64_w, i32_w]
             rfl
            refine pure_ (i := 2) (N := some 107) (v := ?_) (a' := ?_) #[true, false, true, false, false, false, false, false, false, false] rfl rfl (any_of HT_.out (by kernel_rfl)) (fun _ _ _ h => h) (Or.inl ⟨by rfl, ?_⟩) ?_ ?_
            rotate_left
            ·intro w'
             go_simp
             with_reducible rfl
            rotate_left
            ·simp only [Act.put, List.setIfInBounds_toArray, List.set_cons_zero, List.set_cons_succ, i64_w, i32_w]
             rfl
            refine pure_ (i := 3) (N := some 108) (v := ?_) (a' := ?_) #[true, false, true, true, false, false, false, false, false, false] rfl rfl (any_of HT_.out (by kernel_rfl)) (fun _ _ _ h => h) (Or.inl ⟨by rfl, ?_⟩) ?_ ?_
            rotate_left
            ·intro w'
             go_simp
             with_reducible rfl
            rotate_left
            ·simp only [Act.put, List.setIfInBounds_toArray, List.set_cons_zero, List.set_cons_succ, i64_w, i32_w]
             rfl
            refine take_ (i := 1) (N := some 106) (v := ?_) (a' := ?_) #[true, true, true, true, false, false, false, false, false, false] rfl rfl (take_ofW HT_.out HW_.out (by kernel_rfl)) (fun _ _ _ h => h) (Or.inl ⟨by rfl, ?_⟩) hHeld ?_ ?_
            rotate_left
            ·intro w' s0
             go_simp
             with_reducible rfl
            rotate_left
            ·simp only [Act.put, List.setIfInBounds_toArray, List.set_cons_zero, List.set_cons_succ, i64_w, i32_w]
             rfl
            refine one_ (i := 4) (N := some 109) #[true, true, true, true, true, false, false, false, false, false] rfl rfl (one_of HT_.out (by kernel_rfl)) (by decide) (fun K hK => ?_)
            refine goes_ Try.func65 (by kernel_rfl) rfl #[.pointer (some ⟨g, 0, none⟩), .int .i64 3] (by rfl) rfl rfl (by (try simp only [List.map_toArray, List.map_cons, List.map_nil]); first | done | rfl | (simp only [List.length_drop, List.length_take]; rfl)) ?_
            with_reducible refine (spec_l01Below.calls g s0_0 t265 t266 3 t296 t297 t298 w0 _ ?side1 ?side2 A127.out).mono ?_
            (case side1 => exact ii_ HI0)
            (case side2 => exact hj_ HB)
            rintro e w140 ⟨rfl, hi, hb, hk⟩
            refine ⟨_, rfl, ?_⟩
            have n0_ := Aside0.mk (Kd.R_mono (Kd.R_keep (IsS101.apart (show IsS101 w0 _ g s0_0 t265 t266 from ii_ HI0) HO_243000.out (by decide)) hk (fun _ h => h.2)) (fun _ h => h.1))
            have n1_ := Aside0.mk (KeepBut.blk hk (g' := gb241) (o := .cells #[.slice none 0 0] 29 (0, 0)) BK241.out NB241_0.out (by simp))
            have n2_ := Aside0.mk (KeepBut.blk hk (g' := gb242) (o := .cells #[.slice Ao136 x243000_1.length co136] 29 (0, 0)) BK242.out NB242_0.out (by simp))
            have n3_ := Aside0.mk (KeepBut.trans (kk_ HK) hk (.inl rfl))
            have n4_ := Aside0.mk (hb)
            have n5_ := Aside0.mk (hi)
            clear HO_243000 BK241 BK242 HK HB HI0
            have HO_243000 := n0_; have BK241 := n1_; have BK242 := n2_; have HK := n3_; have HB := n4_; have HI0 := n5_
            clear n0_ n1_ n2_ n3_ n4_ n5_
            (try clear hb); (try clear hb2); (try clear hk); (try clear hi)
            refine hK.out _ _ ((blk_cell BK242.out 0).trans rfl) (fun hHeld => ?_)
            clear hK K
            refine norm_ (a' := ?_) ?_ ?_
            rotate_left
            ·show Act.put _ (some 109) _ = _
             simp only [Act.put, List.setIfInBounds_toArray, List.set_cons_zero, List.set_cons_succ, i64_w, i32_w]
             rfl
            refine pure_ (i := 5) (N := some 110) (v := ?_) (a' := ?_) #[true, true, true, true, true, true, false, false, false, false] rfl rfl (any_of HT_.out (by kernel_rfl)) (fun _ _ _ h => h) (Or.inl ⟨by rfl, ?_⟩) ?_ ?_
            rotate_left
            ·intro w'
             go_simp
             with_reducible rfl
            rotate_left
            ·simp only [Act.put, List.setIfInBounds_toArray, List.set_cons_zero, List.set_cons_succ, i64_w, i32_w]
             rfl
            refine one_ (i := 6) (N := some 111) #[true, true, true, true, true, true, true, false, false, false] rfl rfl (one_of HT_.out (by kernel_rfl)) (by decide) (fun K hK => ?_)
            refine goes_ Try.func79 (by kernel_rfl) rfl #[.int .i64 (wrap64 (19999 + t296)), .int .u8 65] (by rfl) rfl rfl (by (try simp only [List.map_toArray, List.map_cons, List.map_nil]); first | done | rfl | (simp only [List.length_drop, List.length_take]; rfl)) ?_
            with_reducible refine (spec_l01Long.calls k1 (wrap64 (19999 + t296)) 65 t299 _ A128.out).mono ?_
            rintro e w141 ⟨rfl, hb⟩
            refine ⟨_, rfl, ?_⟩
            have n0_ := Aside0.mk (Kd.R_below HO_243000.out hb)
            have n1_ := Aside0.mk (blk_below BK241.out hb)
            have n2_ := Aside0.mk (blk_below BK242.out hb)
            have n3_ := Aside0.mk (IsS101.below (ii_ HI0) hb)
            have n4_ := Aside0.mk (KeepBut.trans (kk_ HK) (KeepBut.of_below hb g none) (.inl rfl))
            have n5_ := Aside0.mk (below_step (hj_ HB) hb)
            clear HO_243000 BK241 BK242 HI0 HK HB
            have HO_243000 := n0_; have BK241 := n1_; have BK242 := n2_; have HI0 := n3_; have HK := n4_; have HB := n5_
            clear n0_ n1_ n2_ n3_ n4_ n5_
            (try clear hb); (try clear hb2); (try clear hk); (try clear hi)
            have p131 : 0 ≤ (t261 : Int) := of_decide_eq_true (by first | (with_reducible assumption) | assumption)
            have q131 : (t261 : Int) < ((x243000_1.length : Int) : Int) := of_decide_eq_true (by first | (with_reducible assumption) | assumption)
            obtain ⟨go131, co131, eo131, gb131, gl131, cl131, HG131⟩ := Kd.R_form HO_243000.out (by omega)
            (first | cases eo131 | (injection eo131 with ea_ en_ ec_; (first | subst ea_ | (injection ea_ with ea_; subst ea_)); subst ec_; clear en_))
            have GB131 := Aside0.mk gb131
            have GG131 := Aside0.mk HG131
            clear gb131 gl131 HG131
            obtain ⟨ce131, hcl131, hM131, hcc131, hfr131⟩ := Kd.R_elem HO_243000.out z67 (t261 : Int) p131 q131
            obtain rfl := k67_openM hM131
            have hx131_0 : World.cell? _ ⟨go131, (t261 : Int).toNat * 3, none⟩ = some (.string ((rd_T67 x243000_1 t261).f0)) := hcc131 0 _ rfl
            have hx131_1 : World.cell? _ ⟨go131, (t261 : Int).toNat * 3 + 1, none⟩ = some (.string ((rd_T67 x243000_1 t261).f1)) := hcc131 1 _ rfl
            have hx131_2 : World.cell? _ ⟨go131, (t261 : Int).toNat * 3 + 2, none⟩ = some (.int .i64 ((rd_T67 x243000_1 t261).f2)) := hcc131 2 _ rfl
            have hf131_0 : World.frozen? _ ⟨go131, (t261 : Int).toNat * 3, none⟩ = false := hfr131 0
            have hf131_1 : World.frozen? _ ⟨go131, (t261 : Int).toNat * 3 + 1, none⟩ = false := hfr131 1
            have hf131_2 : World.frozen? _ ⟨go131, (t261 : Int).toNat * 3 + 2, none⟩ = false := hfr131 2
            clear hcl131 hcc131 hfr131 hM131
            replace p131 := eq_true p131
            replace q131 := eq_true q131
            have HN0_go131 := Aside0.mk (show g ≠ go131 from by have h_ := IsS101.own_ne HI0.out HO_243000.out (by decide); intro e_; exact h_ (by rw [e_]; rfl))
            obtain ⟨ce142, hcl142, hM142, hcc142, hfr142⟩ := Kd.R_elem HO_243000.out z67 (t261 : Int) (of_decide_eq_true (by first | (with_reducible assumption) | assumption)) (by have h_ : (t261 : Int) < ((x243000_1.length : Int) : Int) := of_decide_eq_true (by first | (with_reducible assumption) | assumption); first | exact h_ | (have e_ := (Kd.R_reads' HO_243000.out).1; omega) | simpa using h_)
            obtain rfl := k67_openM hM142
            have HP142 := (Kd.R_seg HO_243000.out (t261 : Int) (of_decide_eq_true (by first | (with_reducible assumption) | assumption)) (by have h_ : (t261 : Int) < ((x243000_1.length : Int) : Int) := of_decide_eq_true (by first | (with_reducible assumption) | assumption); first | exact h_ | (have e_ := (Kd.R_reads' HO_243000.out).1; omega) | simpa using h_) (seg := [.string t299]) (j := 1) hcl142 hcc142 (show 2 ≤ 3 from by decide) (x' := (⟨(rd_T67 x243000_1 t261).f0, t299, (rd_T67 x243000_1 t261).f2⟩ : S67)) (k67_mkM _ _ _ (⟨(rd_T67 x243000_1 t261).f0, t299, (rd_T67 x243000_1 t261).f2⟩ : S67) ) (fun _ hk => hk)).1
            rw [← Ny300.out] at HP142
            have HQ142 := Aside0.mk HP142
            clear hcl142 hcc142 hfr142 hM142 HP142
            refine hK.out _ _ ((blk_cell BK242.out 0).trans rfl) (fun hHeld => ?_)
            clear hK K
            refine norm_ (a' := ?_) ?_ ?_
            rotate_left
            ·show Act.put _ (some 111) _ = _
             simp only [Act.put, List.setIfInBounds_toArray, List.set_cons_zero, List.set_cons_succ, i64_w, i32_w]
             rfl
            refine pure_ (i := 7) (N := some 112) (v := ?_) (a' := ?_) #[true, true, true, true, true, true, true, true, false, false] rfl rfl (any_of HT_.out (by kernel_rfl)) (fun _ _ _ h => h) (Or.inl ⟨by rfl, ?_⟩) ?_ ?_
            rotate_left
            ·intro w'
             go_simp
             with_reducible rfl
            rotate_left
            ·simp only [Act.put, List.setIfInBounds_toArray, List.set_cons_zero, List.set_cons_succ, i64_w, i32_w]
             rfl
            refine pure_ (i := 8) (N := some 113) (v := ?_) (a' := ?_) #[true, true, true, true, true, true, true, true, true, false] rfl rfl (any_of HT_.out (by kernel_rfl)) (fun _ _ _ h => h) (Or.inl ⟨by rfl, ?_⟩) ?_ ?_
            rotate_left
            ·intro w'
             go_simp
             with_reducible rfl
            rotate_left
            ·simp only [Act.put, List.setIfInBounds_toArray, List.set_cons_zero, List.set_cons_succ, i64_w, i32_w]
             rfl
            refine last_ (i := 9) (N := none) #[true, true, true, true, true, true, true, true, true, true] rfl rfl (one_of HT_.out (by kernel_rfl)) (by decide) (fun K hK => ?_)
            refine skip_ (w1 := ?_) (by rfl) rfl ?_ ?_
            rotate_left
            ·go_simp
             rfl
            refine hK.out _ _ ?_
            clear hK K
            refine done_ (done_of HT_.out (by kernel_rfl)) ?_
            have n0_ : Aside0 (Kd.R k67 67 (w141.setCell ⟨go131, (t261 : Int).toNat * 3 + 1, none⟩ (.string t299)) w.heap.size (fun _ => True) (.slice (some ⟨go131, 0, none⟩) x243000_1.length co136) y300) := ⟨rr_ HQ142⟩
            have n1_ : Aside0 ((w141.setCell ⟨go131, (t261 : Int).toNat * 3 + 1, none⟩ (.string t299)).heap[gb241]? = some (.cells #[.slice none 0 0] 29 (0, 0))) := ⟨by (with_reducible repeat (first | refine blk_drewN ?_ _ | refine blk_drew ?_ | refine blk_alloc ?_ _)); refine blk_far ?_ (by have h_ := Kd.R_ne HO_243000.out BK241.out (by decide); intro e_; exact h_ (by rw [e_]; rfl)) _; (with_reducible repeat (first | refine blk_drewN ?_ _ | refine blk_drew ?_ | refine blk_alloc ?_ _)); exact BK241.out⟩
            have n2_ : Aside0 ((w141.setCell ⟨go131, (t261 : Int).toNat * 3 + 1, none⟩ (.string t299)).heap[gb242]? = some (.cells #[.slice (some ⟨go131, 0, none⟩) x243000_1.length co136] 29 (0, 0))) := ⟨by (with_reducible repeat (first | refine blk_drewN ?_ _ | refine blk_drew ?_ | refine blk_alloc ?_ _)); refine blk_far ?_ (by have h_ := Kd.R_ne HO_243000.out BK242.out (by decide); intro e_; exact h_ (by rw [e_]; rfl)) _; (with_reducible repeat (first | refine blk_drewN ?_ _ | refine blk_drew ?_ | refine blk_alloc ?_ _)); exact BK242.out⟩
            have n3_ : Aside0 (IsS101 w0 (w141.setCell ⟨go131, (t261 : Int).toNat * 3 + 1, none⟩ (.string t299)) g s0_0 t297 t298) := ⟨ii_ HI0⟩
            have n4_ : Aside0 (KeepBut w (w141.setCell ⟨go131, (t261 : Int).toNat * 3 + 1, none⟩ (.string t299)) g none) := ⟨kk_ HK⟩
            have n5_ : Aside0 (Below w0.heap.size w0 (w141.setCell ⟨go131, (t261 : Int).toNat * 3 + 1, none⟩ (.string t299))) := ⟨by repeat (first | (with_reducible first | exact HB.out | apply below_alloc | apply pw_below_drewN | apply below_drew1 | refine below_set ?_ (Nat.le_trans HL.out GB131.out) | refine below_set ?_ (IsS101.ge HI0.out) | refine below_set ?_ GE241.out | refine below_set ?_ GE242.out) | exact HB.out)⟩
            (try clear HO_243000); (try clear BK241); (try clear BK242); (try clear HI0); (try clear HK); (try clear HB)
            generalize (w141.setCell ⟨go131, (t261 : Int).toNat * 3 + 1, none⟩ (.string t299)) = w143 at n0_ n1_ n2_ n3_ n4_ n5_ ⊢
            have HO_243000 := n0_; have BK241 := n1_; have BK242 := n2_; have HI0 := n3_; have HK := n4_; have HB := n5_
            clear n0_ n1_ n2_ n3_ n4_ n5_
            have hcz144_0 : w143.cell? ⟨gb242, 0, none⟩ = some (.slice (some ⟨go131, 0, none⟩) x243000_1.length co136) := (blk_cell BK242.out 0).trans rfl
            have hfz144_0 := blk_frozen BK242.out 0
            have hnb145 := NB241_0.out; have hnc145 := NB0_241.out
            have hcz146_0 : w143.cell? ⟨gb241, 0, none⟩ = some (.slice none 0 0) := (blk_cell BK241.out 0).trans rfl
            have hfz146_0 := blk_frozen BK241.out 0
            try go_wp2
            refine bodyPost_ret (results_cell_row rfl _ _ gb241 29 #[.slice (some ⟨go131, 0, none⟩) x243000_1.length co136] (0, 0) _ rfl (by (with_reducible repeat (first | refine blk_drewN ?_ _ | refine blk_drew ?_ | refine blk_alloc ?_ _)); refine blk_put (cs := #[.slice none 0 0]) ?_ 0 _ rfl; exact bb_ BK241) Try.underlying29 rfl (by kernel_rfl)) rfl ?_
            exact ⟨_, by first | rfl | (simp [errW_none, errW_some] <;> rfl) | (simp [*, errW_none, errW_some] <;> rfl), by (with_reducible repeat (first | apply Kd.R_alloc | apply Kd.R_drewN | apply Kd.R_drew)); exact Kd.R_mono (Kd.R_far (p := ⟨gb241, 0, none⟩) (Kd.R_types HO_243000.out BK241.out (by decide)) (fun _ hk => hk.2) (.slice (some ⟨go131, 0, none⟩) x243000_1.length co136)) (fun _ hk => trivial), by repeat (first | (with_reducible first | exact HI0.out | apply IsS101.alloc | apply IsS101.drewN | apply IsS101.drew | apply IsS101.set_1 | apply IsS101.set_2 | refine IsS101.far ?_ NB0_241.out _ | refine IsS101.far ?_ NB0_242.out _) | exact HI0.out), by repeat (first | (with_reducible first | exact HB.out | apply below_alloc | apply pw_below_drewN | apply below_drew1 | refine below_set ?_ (IsS101.ge HI0.out) | refine below_set ?_ GE241.out | refine below_set ?_ GE242.out) | exact HB.out), by repeat (first | (with_reducible first | exact HK.out | apply KeepBut.set_ | apply keep_drewN | apply keep_drew | apply keep_alloc | refine keep_far ?_ GW241.out _ | refine keep_far ?_ GW242.out _) | exact HK.out)⟩
           ·rw [if_neg c130] at H
            exact absurd H (by simp)
          ·rw [if_neg c129] at H
           exact absurd H (by simp)
         ·rw [if_neg c126] at H
          have c126b0 : (t264 == 4) = false := beq_eq_false_iff_ne.mpr c126
          have c126b1 : (t264 != 4) = true := bne_iff_ne.mpr c126
          simp only [Option.some.injEq, Prod.mk.injEq] at H
          obtain ⟨rfl, rfl, rfl⟩ := H
          go_wp2_with (first | ((with_reducible refine gate_callee (f := 65) rfl ?_); refine goesL_ (some 11) rfl rfl Try.func65 (by kernel_rfl) rfl #[.pointer (some ⟨g, 0, none⟩), .int .i64 6] rfl (by (try simp only [List.map_toArray, List.map_cons, List.map_nil]); first | done | rfl | (simp only [List.length_drop, List.length_take]; rfl)) ?_; (with_reducible refine (spec_l01Below.calls g s0_0 x1001_1 x1002_1 6 t243 t244 t245 w0 _ ?side1 ?side2 A7.out).mono ?_); (case side1 => exact ii_ HI0); (case side2 => exact hj_ HB); rintro e w147 ⟨rfl, hi, hb, hk⟩; refine ⟨_, rfl, ?_⟩; have n0_ := Aside0.mk (Kd.R_mono (Kd.R_keep (IsS101.apart (show IsS101 w0 _ g s0_0 x1001_1 x1002_1 from ii_ HI0) (rr_ HO_243000) (by decide)) hk (fun _ h => h.2)) (fun _ h => h.1)); have n1_ := Aside0.mk (KeepBut.blk hk (g' := gb241) (o := .cells #[.slice none 0 0] 29 (0, 0)) (bb_ BK241) NB241_0.out (by simp)); have n2_ := Aside0.mk (KeepBut.blk hk (g' := gb242) (o := .cells #[u243000] 29 (0, 0)) (bb_ BK242) NB242_0.out (by simp)); have n3_ := Aside0.mk (KeepBut.trans (kk_ HK) hk (.inl rfl)); have n4_ := Aside0.mk (hb); have n5_ := Aside0.mk (hi); clear HO_243000 BK241 BK242 HK HB HI0; have HO_243000 := n0_; have BK241 := n1_; have BK242 := n2_; have HK := n3_; have HB := n4_; have HI0 := n5_; clear n0_ n1_ n2_ n3_ n4_ n5_; (try clear hb); (try clear hb2); (try clear hk); (try clear hi); have hnb148 := NB242_241.out; have hnc148 := NB241_242.out; have hnb149 := NB242_0.out; have hnc149 := NB0_242.out; have hcz150_0 : w147.cell? ⟨gb242, 0, none⟩ = some (u243000) := (blk_cell BK242.out 0).trans rfl; have hfz150_0 := blk_frozen BK242.out 0; obtain ⟨Ao151, co151, eo151⟩ := Kd.R_slice HO_243000.out; subst eo151) | ((with_reducible refine gate_callee (f := 65) rfl ?_); refine goesL_ (some 39) rfl rfl Try.func65 (by kernel_rfl) rfl #[.pointer (some ⟨g, 0, none⟩), .int .i64 (x243000_1.length : Int)] rfl (by (try simp only [List.map_toArray, List.map_cons, List.map_nil]); first | done | rfl | (simp only [List.length_drop, List.length_take]; rfl)) ?_; (with_reducible refine (spec_l01Below.calls g s0_0 t244 t245 (x243000_1.length : Int) t261 t262 t263 w0 _ ?side1 ?side2 A32.out).mono ?_); (case side1 => exact ii_ HI0); (case side2 => exact hj_ HB); rintro e w152 ⟨rfl, hi, hb, hk⟩; refine ⟨_, rfl, ?_⟩; have n0_ := Aside0.mk (Kd.R_mono (Kd.R_keep (IsS101.apart (show IsS101 w0 _ g s0_0 t244 t245 from ii_ HI0) (rr_ HO_243000) (by decide)) hk (fun _ h => h.2)) (fun _ h => h.1)); have n1_ := Aside0.mk (KeepBut.blk hk (g' := gb241) (o := .cells #[.slice none 0 0] 29 (0, 0)) (bb_ BK241) NB241_0.out (by simp)); have n2_ := Aside0.mk (KeepBut.blk hk (g' := gb242) (o := .cells #[.slice Ao151 x243000_1.length co151] 29 (0, 0)) (bb_ BK242) NB242_0.out (by simp)); have n3_ := Aside0.mk (KeepBut.trans (kk_ HK) hk (.inl rfl)); have n4_ := Aside0.mk (hb); have n5_ := Aside0.mk (hi); clear HO_243000 BK241 BK242 HK HB HI0; have HO_243000 := n0_; have BK241 := n1_; have BK242 := n2_; have HK := n3_; have HB := n4_; have HI0 := n5_; clear n0_ n1_ n2_ n3_ n4_ n5_; (try clear hb); (try clear hb2); (try clear hk); (try clear hi)) | ((with_reducible refine gate_callee (f := 65) rfl ?_); refine goesL_ (some 41) rfl rfl Try.func65 (by kernel_rfl) rfl #[.pointer (some ⟨g, 0, none⟩), .int .i64 40] rfl (by (try simp only [List.map_toArray, List.map_cons, List.map_nil]); first | done | rfl | (simp only [List.length_drop, List.length_take]; rfl)) ?_; (with_reducible refine (spec_l01Below.calls g s0_0 t262 t263 40 t264 t265 t266 w0 _ ?side1 ?side2 A33.out).mono ?_); (case side1 => exact ii_ HI0); (case side2 => exact hj_ HB); rintro e w153 ⟨rfl, hi, hb, hk⟩; refine ⟨_, rfl, ?_⟩; have n0_ := Aside0.mk (Kd.R_mono (Kd.R_keep (IsS101.apart (show IsS101 w0 _ g s0_0 t262 t263 from ii_ HI0) (rr_ HO_243000) (by decide)) hk (fun _ h => h.2)) (fun _ h => h.1)); have n1_ := Aside0.mk (KeepBut.blk hk (g' := gb241) (o := .cells #[.slice none 0 0] 29 (0, 0)) (bb_ BK241) NB241_0.out (by simp)); have n2_ := Aside0.mk (KeepBut.blk hk (g' := gb242) (o := .cells #[.slice Ao151 x243000_1.length co151] 29 (0, 0)) (bb_ BK242) NB242_0.out (by simp)); have n3_ := Aside0.mk (KeepBut.trans (kk_ HK) hk (.inl rfl)); have n4_ := Aside0.mk (hb); have n5_ := Aside0.mk (hi); clear HO_243000 BK241 BK242 HK HB HI0; have HO_243000 := n0_; have BK241 := n1_; have BK242 := n2_; have HK := n3_; have HB := n4_; have HI0 := n5_; clear n0_ n1_ n2_ n3_ n4_ n5_; (try clear hb); (try clear hb2); (try clear hk); (try clear hi); have hcz154_0 : w153.cell? ⟨gb242, 0, none⟩ = some (.slice Ao151 x243000_1.length co151) := (blk_cell BK242.out 0).trans rfl; have hfz154_0 := blk_frozen BK242.out 0; have hnb155 := NB241_0.out; have hnc155 := NB0_241.out; have hcz156_0 : w153.cell? ⟨gb241, 0, none⟩ = some (.slice none 0 0) := (blk_cell BK241.out 0).trans rfl; have hfz156_0 := blk_frozen BK241.out 0))
          refine bodyPost_ret (results_cell_row rfl _ _ gb241 29 #[.slice Ao151 x243000_1.length co151] (0, 0) _ rfl (by (with_reducible repeat (first | refine blk_drewN ?_ _ | refine blk_drew ?_ | refine blk_alloc ?_ _)); refine blk_put (cs := #[.slice none 0 0]) ?_ 0 _ rfl; exact bb_ BK241) Try.underlying29 rfl (by kernel_rfl)) rfl ?_
          exact ⟨_, by first | rfl | (simp [errW_none, errW_some] <;> rfl) | (simp [*, errW_none, errW_some] <;> rfl), by (with_reducible repeat (first | apply Kd.R_alloc | apply Kd.R_drewN | apply Kd.R_drew)); exact Kd.R_mono (Kd.R_far (p := ⟨gb241, 0, none⟩) (Kd.R_types HO_243000.out BK241.out (by decide)) (fun _ hk => hk.2) (.slice Ao151 x243000_1.length co151)) (fun _ hk => trivial), by repeat (first | (with_reducible first | exact HI0.out | apply IsS101.alloc | apply IsS101.drewN | apply IsS101.drew | apply IsS101.set_1 | apply IsS101.set_2 | refine IsS101.far ?_ NB0_241.out _ | refine IsS101.far ?_ NB0_242.out _) | exact HI0.out), by repeat (first | (with_reducible first | exact HB.out | apply below_alloc | apply pw_below_drewN | apply below_drew1 | refine below_set ?_ (IsS101.ge HI0.out) | refine below_set ?_ GE241.out | refine below_set ?_ GE242.out) | exact HB.out), by repeat (first | (with_reducible first | exact HK.out | apply KeepBut.set_ | apply keep_drewN | apply keep_drew | apply keep_alloc | refine keep_far ?_ GW241.out _ | refine keep_far ?_ GW242.out _) | exact HK.out)⟩

end Go.Proofs.Yteghgeanbglmoaa.PFnActs
