-- a text of this session's program wip/hyb.py (over the kit's print), out of the translation
import Derived.Test.YteghgeanbglmoaaPFnActsx0
import Derived.Test.YteghgeanbglmoaaDkFnActsZ
import Derived.Test.YteghgeanbglmoaaPFnActsx3
namespace Go.Proofs.Yteghgeanbglmoaa.PFnActs
open Go.RowKit Go.Proofs.YteghgeanbglmoaaW.PrintWords Go.Proofs.YteghgeanbglmoaaW.PrintLast Go.Proofs.YteghgeanbglmoaaW.PrintMore
attribute [local go_sem] max2_int min2_int max_two min_two max_three min_three max_four min_four   -- for this text's walks alone
set_option linter.unusedVariables false
set_option linter.unusedSimpArgs false

/-! ### spec_LoseDisk: function 33 -/
mutual
def spec_LoseDisk.l0 : Nat → List Int → Int → List (S67) → List (S67) → Option ((List (S67)) × Bool)
 | 0, _, _, _, _ => none
 | k + 1, x1, x7, x133000, x136000 => if x7 < (x133000.length : Int) then (if 0 ≤ x7 then (if x7 < (x1.length : Int) then (spec_LoseDisk.j1 k x1 x7 (rd x1 x7) x133000 x136000 ((rd_T67 x133000 x7).f0) ((rd_T67 x133000 x7).f1) ((rd_T67 x133000 x7).f2)) else (spec_LoseDisk.j1 k x1 x7 0 x133000 x136000 ((rd_T67 x133000 x7).f0) ((rd_T67 x133000 x7).f1) ((rd_T67 x133000 x7).f2))) else (none)) else (some (x136000, true))
def spec_LoseDisk.j1 : Nat → List Int → Int → Int → List (S67) → List (S67) → ByteArray → ByteArray → Int → Option ((List (S67)) × Bool)
 | 0, _, _, _, _, _, _, _, _ => none
 | k + 1, x1, x7, x9, x133000, x136000, x138000, x138001, x138002 => if x9 > (x138001.size : Int) then (if (x138001.size : Int) < x138002 then (if 0 ≤ x138002 then (if x138002 ≤ (x138001.size : Int) then (if x136000.length < 3518437208883 then (spec_LoseDisk.l0 k x1 (wrap64 (x7 + 1)) x133000 (x136000 ++ [(⟨x138000, x138001.extract 0 (x138002 : Int).toNat, x138002⟩ : S67)])) else (none)) else (none)) else (none)) else (if 0 ≤ (x138001.size : Int) then (if (x138001.size : Int) ≤ (x138001.size : Int) then (if x136000.length < 3518437208883 then (spec_LoseDisk.l0 k x1 (wrap64 (x7 + 1)) x133000 (x136000 ++ [(⟨x138000, x138001, (x138001.size : Int)⟩ : S67)])) else (none)) else (none)) else (none))) else (if x9 < x138002 then (if 0 ≤ x138002 then (if x138002 ≤ (x138001.size : Int) then (if x136000.length < 3518437208883 then (spec_LoseDisk.l0 k x1 (wrap64 (x7 + 1)) x133000 (x136000 ++ [(⟨x138000, x138001.extract 0 (x138002 : Int).toNat, x138002⟩ : S67)])) else (none)) else (none)) else (none)) else (if 0 ≤ x9 then (if x9 ≤ (x138001.size : Int) then (if x136000.length < 3518437208883 then (spec_LoseDisk.l0 k x1 (wrap64 (x7 + 1)) x133000 (x136000 ++ [(⟨x138000, x138001.extract 0 (x9 : Int).toNat, x9⟩ : S67)])) else (none)) else (none)) else (none)))
end
def spec_LoseDisk.f (k : Nat) (l0_0 : List (S67)) (l1 : List Int) : Option ((List (S67)) × Bool) := (spec_DiskOk.f l0_0).bind fun t134 => (if t134 = true then (spec_LoseDisk.l0 k l1 0 l0_0 ([] : List (S67))) else (some (([] : List (S67)), false)))
theorem spec_LoseDisk.mono_l : ∀ k, (∀ y0 y1 y2 y3, LeO (spec_LoseDisk.l0 k y0 y1 y2 y3) (spec_LoseDisk.l0 (k + 1) y0 y1 y2 y3)) ∧ (∀ y0 y1 y2 y3 y4 y5 y6 y7, LeO (spec_LoseDisk.j1 k y0 y1 y2 y3 y4 y5 y6 y7) (spec_LoseDisk.j1 (k + 1) y0 y1 y2 y3 y4 y5 y6 y7))
 | 0 => ⟨fun _ _ _ _ r h => by simp [spec_LoseDisk.l0] at h, fun _ _ _ _ _ _ _ _ r h => by simp [spec_LoseDisk.j1] at h⟩
 | k + 1 => by
  obtain ⟨ih0, ih1⟩ := spec_LoseDisk.mono_l k
  refine ⟨?_, ?_⟩
  ·intro y0 y1 y2 y3
   unfold spec_LoseDisk.l0
   repeat' first
   | (with_reducible exact ih0 _ _ _ _)
   | (with_reducible exact ih1 _ _ _ _ _ _ _ _)
   | (with_reducible exact LeO.refl _)
   | (with_reducible exact LeO.none _)
   | (with_reducible refine LeO.ite ?_ ?_)
   | (with_reducible refine LeO.bind ?_ (fun _ => ?_))
   | exact ih0 _ _ _ _
   | exact ih1 _ _ _ _ _ _ _ _
   | exact LeO.none _
   | refine LeO.ite ?_ ?_
   | refine LeO.bind ?_ (fun _ => ?_)
  ·intro y0 y1 y2 y3 y4 y5 y6 y7
   unfold spec_LoseDisk.j1
   repeat' first
   | (with_reducible exact ih0 _ _ _ _)
   | (with_reducible exact ih1 _ _ _ _ _ _ _ _)
   | (with_reducible exact LeO.refl _)
   | (with_reducible exact LeO.none _)
   | (with_reducible refine LeO.ite ?_ ?_)
   | (with_reducible refine LeO.bind ?_ (fun _ => ?_))
   | exact ih0 _ _ _ _
   | exact ih1 _ _ _ _ _ _ _ _
   | exact LeO.none _
   | refine LeO.ite ?_ ?_
   | refine LeO.bind ?_ (fun _ => ?_)
theorem spec_LoseDisk.mono : ∀ a0 a1 k, LeO (spec_LoseDisk.f k a0 a1) (spec_LoseDisk.f (k + 1) a0 a1) := by
 intro a0 a1 k
 obtain ⟨ih0, ih1⟩ := spec_LoseDisk.mono_l k
 unfold spec_LoseDisk.f
 repeat' first
   | (with_reducible exact ih0 _ _ _ _)
   | (with_reducible exact ih1 _ _ _ _ _ _ _ _)
   | (with_reducible exact LeO.refl _)
   | (with_reducible exact LeO.none _)
   | (with_reducible refine LeO.ite ?_ ?_)
   | (with_reducible refine LeO.bind ?_ (fun _ => ?_))
   | exact ih0 _ _ _ _
   | exact ih1 _ _ _ _ _ _ _ _
   | exact LeO.none _
   | refine LeO.ite ?_ ?_
   | refine LeO.bind ?_ (fun _ => ?_)
def spec_LoseDisk.T15 : Bool × List (List Nat × List Nat) := (true, [([], []), ([0], [0]), ([], []), ([2], [2]), ([], []), ([4], [4]), ([], []), ([5, 6], [5, 6]), ([], []), ([3, 7, 8], [3, 7, 8]), ([9], [9]), ([1, 10], [1, 10]), ([0, 1, 2, 3, 4, 5, 6, 7, 8, 9, 10, 11], []), ([12, 11, 11, 0, 1, 2, 3, 4, 5, 6, 7, 8, 9, 10, 11], [11, 12])])
def spec_LoseDisk.B15 : List Nat := [0, 1, 0, 4, 0, 16, 0, 112, 0, 508, 1020, 2047, 4095, 8191]
theorem spec_LoseDisk.tab15 : rtab .any (opsOf Try.f33 15) = spec_LoseDisk.T15 := by kernel_rfl
theorem spec_LoseDisk.bits15 : waitsOk spec_LoseDisk.T15.2 spec_LoseDisk.B15 = true := by kernel_rfl
set_option maxHeartbeats 8000000 in
set_option maxRecDepth 100000 in
theorem spec_LoseDisk.calls (k : Nat) (A0_0 : Option Addr) (c0_0 : Nat) (l0_0 : List (S67)) (A1 : Option Addr) (c1 : Nat) (l1 : List Int) (r1 : List (S67)) (r2 : Bool) (w : World) (hr0_0 : Kd.C k67 w A0_0 l0_0.length l0_0) (hc0_0 : l0_0.length ≤ c0_0) (hr1 : Kd.C (Kd.int .i64) w A1 l1.length l1) (hc1 : l1.length ≤ c1) (h : spec_LoseDisk.f k l0_0 l1 = some (r1, r2)) :
  Calls Try.prog 33 #[.agg #[.slice A0_0 l0_0.length c0_0], .slice A1 l1.length c1] w fun e w' => ∃ v0_ : Value, e = .returned (.tuple #[.agg #[v0_], .bool r2]) ∧ Kd.R k67 67 w' w.heap.size (fun _ => True) v0_ r1 ∧ Below w.heap.size w w' := by
 have hu29 := Try.underlying29
 have hu67 := Try.underlying67
 have HR0_0 := Aside0.mk hr0_0
 have HC0_0 := Aside0.mk hc0_0
 clear hr0_0 hc0_0
 have HR1 := Aside0.mk hr1
 have HC1 := Aside0.mk hc1
 clear hr1 hc1
 have HB := Aside0.mk (Below.refl w.heap.size w)
 have H : ((spec_DiskOk.f l0_0).bind fun t134 => (if t134 = true then (spec_LoseDisk.l0 k l1 0 l0_0 ([] : List (S67))) else (some (([] : List (S67)), false)))) = some (r1, r2) := h
 clear h
 replace H := Option.bind_eq_some_iff.mp H
 obtain ⟨t134, A30, H⟩ := H
 replace H : (if t134 = true then (spec_LoseDisk.l0 k l1 0 l0_0 ([] : List (S67))) else (some (([] : List (S67)), false))) = some (r1, r2) := H
 have A3 := Aside0.mk A30
 clear A30
 by_cases c4 : t134 = true
 ·subst c4
  have H1 : (spec_LoseDisk.l0 k l1 0 l0_0 ([] : List (S67))) = some (r1, r2) := by rw [if_pos rfl] at H; exact H
  clear H
  have H := H1
  clear H1
  have H' := Aside0.mk H
  clear H
  go_enter Try.func33, Try.ntmps33
  go_wp2_with (first | ((with_reducible refine gate_dst (N := 2) rfl ?_); refine box_event ?hg (N := 2) ?hd (cs := #[.slice A0_0 l0_0.length c0_0]) (t := 29) ?hr ?_; (case hd => rfl); (case hg => rfl); (case hr => first | (go_simp; done) | (go_simp; rfl)); intro gb132 hg w5 hbox hb; have n0_ := Aside0.mk (below_step (hh_ HB) hb); have n1_ := Aside0.mk (hbox); have n2_ := Aside0.mk ((by rw [hg]; exact (below_size (hh_ HB)) : w.heap.size ≤ gb132)); have n3_ := n2_; clear HB; have HB := n0_; have BK132 := n1_; have GW132 := n2_; have GE132 := n3_; clear n0_ n1_ n2_ n3_; clear hb hbox hg) | ((with_reducible refine gate_dst (N := 4) rfl ?_); refine box_event ?hg (N := 4) ?hd (cs := #[.slice none 0 0]) (t := 29) ?hr ?_; (case hd => rfl); (case hg => rfl); (case hr => first | (go_simp; done) | (go_simp; rfl)); intro gb133 hg w6 hbox hb; have n0_ := Aside0.mk (blk_below (bb_ BK132) hb); have n1_ := Aside0.mk (below_step (hh_ HB) hb); have n2_ := Aside0.mk (hbox); have n3_ := Aside0.mk ((by rw [hg]; exact (below_size (hh_ HB)) : w.heap.size ≤ gb133)); have n4_ := n3_; have n5_ := Aside0.mk ((by rw [hg]; exact Nat.ne_of_lt (blk_lt (bb_ BK132)) : gb132 ≠ gb133)); have n6_ := Aside0.mk ((by rw [hg]; exact Nat.ne_of_gt (blk_lt (bb_ BK132)) : gb133 ≠ gb132)); clear BK132; clear HB; have BK132 := n0_; have HB := n1_; have BK133 := n2_; have GW133 := n3_; have GE133 := n4_; have NB132_133 := n5_; have NB133_132 := n6_; clear n0_ n1_ n2_ n3_ n4_ n5_ n6_; clear hb hbox hg; have hnb7 := NB132_133.out; have hnc7 := NB133_132.out; have hcz8_0 : w6.cell? ⟨gb132, 0, none⟩ = some (.slice A0_0 l0_0.length c0_0) := (blk_cell BK132.out 0).trans rfl; have hfz8_0 := blk_frozen BK132.out 0) | ((with_reducible refine gate_callee (f := 13) rfl ?_); refine goesL_ (some 11) rfl rfl Try.func13 (by kernel_rfl) rfl #[.agg #[.slice A0_0 l0_0.length c0_0]] rfl (by (try simp only [List.map_toArray, List.map_cons, List.map_nil]); first | done | rfl | (simp only [List.length_drop, List.length_take]; rfl)) ?_; (with_reducible refine (spec_DiskOk.calls _ _ l0_0 true _ ?side1 ?side2 A3.out).mono ?_); (case side1 => repeat (first | exact (Kd.C_below HR0_0.out HB.out) | (with_reducible refine Kd.C_alloc ?_ _) | (with_reducible refine Kd.C_drewN ?_ _) | (with_reducible refine Kd.C_drew ?_))); (case side2 => exact HC0_0.out); rintro e w9 ⟨rfl, hb⟩; refine ⟨_, rfl, ?_⟩; have n0_ := Aside0.mk (blk_below (bb_ BK132) hb); have n1_ := Aside0.mk (blk_below (bb_ BK133) hb); have n2_ := Aside0.mk (below_step (hh_ HB) hb); clear BK132; clear BK133; clear HB; have BK132 := n0_; have BK133 := n1_; have HB := n2_; clear n0_ n1_ n2_; (try clear hb); (try clear hb2); (try clear hk); (try clear hi)) | ((with_reducible refine gate_dst (N := 6) rfl ?_); refine box_event ?hg (N := 6) ?hd (cs := #[.slice none 0 0]) (t := 29) ?hr ?_; (case hd => rfl); (case hg => rfl); (case hr => first | (go_simp; done) | (go_simp; rfl)); intro gb135 hg w10 hbox hb; have n0_ := Aside0.mk (blk_below (bb_ BK132) hb); have n1_ := Aside0.mk (blk_below (bb_ BK133) hb); have n2_ := Aside0.mk (below_step (hh_ HB) hb); have n3_ := Aside0.mk (hbox); have n4_ := Aside0.mk ((by rw [hg]; exact (below_size (hh_ HB)) : w.heap.size ≤ gb135)); have n5_ := n4_; have n6_ := Aside0.mk ((by rw [hg]; exact Nat.ne_of_lt (blk_lt (bb_ BK132)) : gb132 ≠ gb135)); have n7_ := Aside0.mk ((by rw [hg]; exact Nat.ne_of_gt (blk_lt (bb_ BK132)) : gb135 ≠ gb132)); have n8_ := Aside0.mk ((by rw [hg]; exact Nat.ne_of_lt (blk_lt (bb_ BK133)) : gb133 ≠ gb135)); have n9_ := Aside0.mk ((by rw [hg]; exact Nat.ne_of_gt (blk_lt (bb_ BK133)) : gb135 ≠ gb133)); clear BK132; clear BK133; clear HB; have BK132 := n0_; have BK133 := n1_; have HB := n2_; have BK135 := n3_; have GW135 := n4_; have GE135 := n5_; have NB132_135 := n6_; have NB135_132 := n7_; have NB133_135 := n8_; have NB135_133 := n9_; clear n0_ n1_ n2_ n3_ n4_ n5_ n6_ n7_ n8_ n9_; clear hb hbox hg; have hnb11 := NB135_132.out; have hnc11 := NB132_135.out; have hnb12 := NB135_133.out; have hnc12 := NB133_135.out; have hcz13_0 : w10.cell? ⟨gb135, 0, none⟩ = some (.slice none 0 0) := (blk_cell BK135.out 0).trans rfl; have hfz13_0 := blk_frozen BK135.out 0))
  go_loopg [7] k (fun kq v7 w' => ∃ (x7_1 : Int) (x136000_1 : List (S67)) (u136000 : Value), v7 = .int .i64 x7_1 ∧ Aside0 (spec_LoseDisk.l0 kq l1 x7_1 l0_0 x136000_1 = some (r1, r2)) ∧ Aside0 (kq ≤ k) ∧ Aside0 (Kd.R k67 67 w' w.heap.size (fun _ => True) u136000 x136000_1) ∧ Aside0 (w'.heap[gb132]? = some (.cells #[(.slice A0_0 l0_0.length c0_0)] 29 (0, 0))) ∧ Aside0 (w'.heap[gb133]? = some (.cells #[(.slice none 0 0)] 29 (0, 0))) ∧ Aside0 (w'.heap[gb135]? = some (.cells #[u136000] 29 (0, 0))) ∧ Aside0 (Below w.heap.size w w'))
  case atStart => exact ⟨(0), (([] : List (S67))), (.slice none 0 0), (by first | rfl | (simp; done) | (simp [*]; done)), H', ⟨Nat.le_refl _⟩, ⟨by first | exact Kd.R_nil _ _ _ _ _ | exact Kd.N_nil _ _ _ _ _ | exact Kd.V_nil _ _ _ _ _ | exact Kd.Q_nil _ _ _ _ _ | exact Kd.S_nil _ _ _ _ _⟩, ⟨by (with_reducible repeat (first | refine blk_drewN ?_ _ | refine blk_drew ?_ | refine blk_alloc ?_ _)); refine blk_far ?_ NB132_135.out _; exact bb_ BK132⟩, ⟨by (with_reducible repeat (first | refine blk_drewN ?_ _ | refine blk_drew ?_ | refine blk_alloc ?_ _)); refine blk_far ?_ NB133_135.out _; exact bb_ BK133⟩, ⟨by (with_reducible repeat (first | refine blk_drewN ?_ _ | refine blk_drew ?_ | refine blk_alloc ?_ _)); refine blk_put (cs := #[.slice none 0 0]) ?_ 0 _ rfl; exact bb_ BK135⟩, ⟨hh_ HB⟩⟩
  case round =>
   clear H'
   try clear c1
   try clear p2
   try clear c3
   try clear c4
   try clear c7
   try clear c11
   try clear c12
   try clear c13
   try clear hcz13_0
   try clear hcz8_0
   try clear hfz13_0
   try clear hfz8_0
   obtain ⟨x7_1, x136000_1, u136000, rfl, HA, HK1, HO_136000, BK132, BK133, BK135, HB⟩ := hrel
   cases gk with
   | zero => exact absurd HA.out (by simp [spec_LoseDisk.l0])
   | succ k1 =>
    have H := HA.out
    clear HA
    simp only [spec_LoseDisk.l0] at H
    by_cases c14 : x7_1 < (l0_0.length : Int)
    ·rw [if_pos c14] at H
     have c14b0 : decide (x7_1 < (l0_0.length : Int)) = true := decide_eq_true c14
     clear c14
     by_cases c15 : 0 ≤ x7_1
     ·rw [if_pos c15] at H
      have c15b0 : decide (0 ≤ x7_1) = true := decide_eq_true c15
      clear c15
      have HC16 := Aside0.mk H
      clear H
      have hnb17 := NB132_133.out; have hnc17 := NB133_132.out; have hnb18 := NB132_135.out; have hnc18 := NB135_132.out
      have hcz19_0 : wr.cell? ⟨gb132, 0, none⟩ = some (.slice A0_0 l0_0.length c0_0) := (blk_cell BK132.out 0).trans rfl
      have hfz19_0 := blk_frozen BK132.out 0
      have p136 : 0 ≤ (x7_1 : Int) := of_decide_eq_true (by first | (with_reducible assumption) | assumption)
      have q136 : x7_1 < (l0_0.length : Int) := of_decide_eq_true (by first | (with_reducible assumption) | assumption)
      obtain ⟨ad136, e136, hx136_0, hx136_1, hx136_2⟩ := at_T67 HR0_0.out x7_1 p136 q136
      cases e136
      replace hx136_0 := (HB.out.cell (World.block_lt_of_cell? w _ hx136_0)).trans hx136_0
      replace hx136_1 := (HB.out.cell (World.block_lt_of_cell? w _ hx136_1)).trans hx136_1
      replace hx136_2 := (HB.out.cell (World.block_lt_of_cell? w _ hx136_2)).trans hx136_2
      replace p136 := eq_true p136
      replace q136 := eq_true q136
      go_upto_if 30 with (first | ((with_reducible refine gate_dst (N := 8) rfl ?_); refine box_event ?hg (N := 8) ?hd (cs := #[.string (⟨#[]⟩ : ByteArray), .string (⟨#[]⟩ : ByteArray), .int .i64 0]) (t := 67) ?hr ?_; (case hd => rfl); (case hg => rfl); (case hr => first | (go_simp; done) | (go_simp; rfl)); intro gb137 hg w20 hbox hb; have n0_ := Aside0.mk (Kd.R_below (Kd.R_elderB (rr_ HO_136000) gb137 (Nat.le_of_eq hg.symm)) hb); have n1_ := Aside0.mk (blk_below (bb_ BK132) hb); have n2_ := Aside0.mk (blk_below (bb_ BK133) hb); have n3_ := Aside0.mk (blk_below (bb_ BK135) hb); have n4_ := Aside0.mk (below_step (hh_ HB) hb); have n5_ := Aside0.mk (hbox); have n6_ := Aside0.mk ((by rw [hg]; exact (below_size (hh_ HB)) : w.heap.size ≤ gb137)); have n7_ := n6_; have n8_ := Aside0.mk ((by rw [hg]; exact Nat.ne_of_lt (blk_lt (bb_ BK132)) : gb132 ≠ gb137)); have n9_ := Aside0.mk ((by rw [hg]; exact Nat.ne_of_gt (blk_lt (bb_ BK132)) : gb137 ≠ gb132)); have n10_ := Aside0.mk ((by rw [hg]; exact Nat.ne_of_lt (blk_lt (bb_ BK133)) : gb133 ≠ gb137)); have n11_ := Aside0.mk ((by rw [hg]; exact Nat.ne_of_gt (blk_lt (bb_ BK133)) : gb137 ≠ gb133)); have n12_ := Aside0.mk ((by rw [hg]; exact Nat.ne_of_lt (blk_lt (bb_ BK135)) : gb135 ≠ gb137)); have n13_ := Aside0.mk ((by rw [hg]; exact Nat.ne_of_gt (blk_lt (bb_ BK135)) : gb137 ≠ gb135)); clear HO_136000; clear BK132; clear BK133; clear BK135; clear HB; have HO_136000 := n0_; have BK132 := n1_; have BK133 := n2_; have BK135 := n3_; have HB := n4_; have BK137 := n5_; have GW137 := n6_; have GE137 := n7_; have NB132_137 := n8_; have NB137_132 := n9_; have NB133_137 := n10_; have NB137_133 := n11_; have NB135_137 := n12_; have NB137_135 := n13_; clear n0_ n1_ n2_ n3_ n4_ n5_ n6_ n7_ n8_ n9_ n10_ n11_ n12_ n13_; clear hb hbox hg; have hnb21 := NB137_132.out; have hnc21 := NB132_137.out; have hnb22 := NB137_133.out; have hnc22 := NB133_137.out; have hnb23 := NB137_135.out; have hnc23 := NB135_137.out; have hcz24_0 : w20.cell? ⟨gb137, 0, none⟩ = some (.string (⟨#[]⟩ : ByteArray)) := (blk_cell BK137.out 0).trans rfl; have hcz24_1 : w20.cell? ⟨gb137, 1, none⟩ = some (.string (⟨#[]⟩ : ByteArray)) := (blk_cell BK137.out 1).trans rfl; have hcz24_2 : w20.cell? ⟨gb137, 2, none⟩ = some (.int .i64 0) := (blk_cell BK137.out 2).trans rfl; have hfz24_0 := blk_frozen BK137.out 0; have hfz24_1 := blk_frozen BK137.out 1; have hfz24_2 := blk_frozen BK137.out 2))
      (try simp only [Act.put, List.setIfInBounds_toArray, List.set_cons_zero, List.set_cons_succ])
      go_cut [9] (fun v9 wc => ∃ (kq : Nat) (x9_15 : Int), v9 = .int .i64 x9_15 ∧ Aside0 (spec_LoseDisk.j1 kq l1 x7_1 x9_15 l0_0 x136000_1 ((rd_T67 l0_0 x7_1).f0) ((rd_T67 l0_0 x7_1).f1) ((rd_T67 l0_0 x7_1).f2) = some (r1, r2)) ∧ Aside0 (kq ≤ k1) ∧ Aside0 (Kd.R k67 67 wc w.heap.size (fun k_ => k_ ≠ gb137) u136000 x136000_1) ∧ Aside0 (wc.heap[gb132]? = some (.cells #[(.slice (some ad136) l0_0.length c0_0)] 29 (0, 0))) ∧ Aside0 (wc.heap[gb133]? = some (.cells #[(.slice none 0 0)] 29 (0, 0))) ∧ Aside0 (wc.heap[gb135]? = some (.cells #[u136000] 29 (0, 0))) ∧ Aside0 (wc.heap[gb137]? = some (.cells #[.string ((rd_T67 l0_0 x7_1).f0), .string ((rd_T67 l0_0 x7_1).f1), .int .i64 ((rd_T67 l0_0 x7_1).f2)] 67 (0, 0))) ∧ Aside0 (Below w.heap.size w wc))
      case first =>
       have H := HC16.out
       clear HC16
       by_cases c25 : x7_1 < (l1.length : Int)
       ·rw [if_pos c25] at H
        have c25b0 : decide (x7_1 < (l1.length : Int)) = true := decide_eq_true c25
        clear c25
        (first | rw [c25b0] | (simp only [i64_w, i32_w]; rw [c25b0]) | skip)
        have H' := Aside0.mk H
        clear H
        have p138 : 0 ≤ (x7_1 : Int) := of_decide_eq_true (by first | (with_reducible assumption) | assumption)
        have q138 : x7_1 < (l1.length : Int) := of_decide_eq_true (by first | (with_reducible assumption) | assumption)
        obtain ⟨ad138, e138, hx138_0⟩ := Kd.at_int HR1.out x7_1 p138 q138
        cases e138
        have hn138_0 : ad138.block ≠ gb137 := Nat.ne_of_lt (Nat.lt_of_lt_of_le (by have := World.block_lt_of_cell? _ _ hx138_0; first | rwa [add_block] at this | exact this) GW137.out)
        have hn138_1 : ad138.block ≠ gb137 := Nat.ne_of_lt (Nat.lt_of_lt_of_le (by have := World.block_lt_of_cell? _ _ hx138_0; first | rwa [add_block] at this | exact this) GW137.out)
        have hn138_2 : ad138.block ≠ gb137 := Nat.ne_of_lt (Nat.lt_of_lt_of_le (by have := World.block_lt_of_cell? _ _ hx138_0; first | rwa [add_block] at this | exact this) GW137.out)
        replace hx138_0 := (HB.out.cell (World.block_lt_of_cell? w _ hx138_0)).trans hx138_0
        replace hx138_0 := (cell_far (p := ⟨gb137, 0, none⟩) (by first | (rw [add_block]; exact hn138_0) | (show (Addr.add _ _).block ≠ _; rw [add_block]; exact hn138_0) | exact hn138_0) (.string ((rd_T67 l0_0 x7_1).f0))).trans hx138_0
        replace hx138_0 := (cell_far (p := ⟨gb137, 1, none⟩) (by first | (rw [add_block]; exact hn138_1) | (show (Addr.add _ _).block ≠ _; rw [add_block]; exact hn138_1) | exact hn138_1) (.string ((rd_T67 l0_0 x7_1).f1))).trans hx138_0
        replace hx138_0 := (cell_far (p := ⟨gb137, 2, none⟩) (by first | (rw [add_block]; exact hn138_2) | (show (Addr.add _ _).block ≠ _; rw [add_block]; exact hn138_2) | exact hn138_2) (.int .i64 ((rd_T67 l0_0 x7_1).f2))).trans hx138_0
        clear hn138_0 hn138_1 hn138_2
        replace p138 := eq_true p138
        replace q138 := eq_true q138
        go_wp2
        go_meet
        case rel => exact ⟨_, (rd l1 x7_1), (by first | rfl | (simp; done) | (simp [*]; done)), H', ⟨by have := HK1.out; first | omega | exact Nat.le_refl _⟩, ⟨by (with_reducible repeat (first | apply Kd.R_alloc | apply Kd.R_drewN | apply Kd.R_drew)); exact Kd.R_mono (Kd.R_far (p := ⟨gb137, 2, none⟩) (Kd.R_far (p := ⟨gb137, 1, none⟩) (Kd.R_far (p := ⟨gb137, 0, none⟩) (Kd.R_mono HO_136000.out (fun k_ hk => (⟨hk, hk.2⟩ : _ ∧ k_ ≠ gb137))) (fun _ hk => hk.2) (.string ((rd_T67 l0_0 x7_1).f0))) (fun _ hk => hk.2) (.string ((rd_T67 l0_0 x7_1).f1))) (fun _ hk => hk.2) (.int .i64 ((rd_T67 l0_0 x7_1).f2))) (fun _ hk => hk.1.2)⟩, ⟨by (with_reducible repeat (first | refine blk_drewN ?_ _ | refine blk_drew ?_ | refine blk_alloc ?_ _)); refine blk_far ?_ NB132_137.out _; refine blk_far ?_ NB132_137.out _; refine blk_far ?_ NB132_137.out _; exact bb_ BK132⟩, ⟨by (with_reducible repeat (first | refine blk_drewN ?_ _ | refine blk_drew ?_ | refine blk_alloc ?_ _)); refine blk_far ?_ NB133_137.out _; refine blk_far ?_ NB133_137.out _; refine blk_far ?_ NB133_137.out _; exact bb_ BK133⟩, ⟨by (with_reducible repeat (first | refine blk_drewN ?_ _ | refine blk_drew ?_ | refine blk_alloc ?_ _)); refine blk_far ?_ NB135_137.out _; refine blk_far ?_ NB135_137.out _; refine blk_far ?_ NB135_137.out _; exact bb_ BK135⟩, ⟨by (with_reducible repeat (first | refine blk_drewN ?_ _ | refine blk_drew ?_ | refine blk_alloc ?_ _)); refine blk_put (cs := #[.string ((rd_T67 l0_0 x7_1).f0), .string ((rd_T67 l0_0 x7_1).f1), .int .i64 0]) ?_ 2 _ rfl; refine blk_put (cs := #[.string ((rd_T67 l0_0 x7_1).f0), .string (⟨#[]⟩ : ByteArray), .int .i64 0]) ?_ 1 _ rfl; refine blk_put (cs := #[.string (⟨#[]⟩ : ByteArray), .string (⟨#[]⟩ : ByteArray), .int .i64 0]) ?_ 0 _ rfl; exact bb_ BK137⟩, ⟨hh_ HB⟩⟩
       ·rw [if_neg c25] at H
        have c25b0 : decide (x7_1 < (l1.length : Int)) = false := decide_eq_false c25
        clear c25
        (first | rw [c25b0] | (simp only [i64_w, i32_w]; rw [c25b0]) | skip)
        have H' := Aside0.mk H
        clear H
        go_wp2
        go_meet
        case rel => exact ⟨_, (0), (by first | rfl | (simp; done) | (simp [*]; done)), H', ⟨by have := HK1.out; first | omega | exact Nat.le_refl _⟩, ⟨by (with_reducible repeat (first | apply Kd.R_alloc | apply Kd.R_drewN | apply Kd.R_drew)); exact Kd.R_mono (Kd.R_far (p := ⟨gb137, 2, none⟩) (Kd.R_far (p := ⟨gb137, 1, none⟩) (Kd.R_far (p := ⟨gb137, 0, none⟩) (Kd.R_mono HO_136000.out (fun k_ hk => (⟨hk, hk.2⟩ : _ ∧ k_ ≠ gb137))) (fun _ hk => hk.2) (.string ((rd_T67 l0_0 x7_1).f0))) (fun _ hk => hk.2) (.string ((rd_T67 l0_0 x7_1).f1))) (fun _ hk => hk.2) (.int .i64 ((rd_T67 l0_0 x7_1).f2))) (fun _ hk => hk.1.2)⟩, ⟨by (with_reducible repeat (first | refine blk_drewN ?_ _ | refine blk_drew ?_ | refine blk_alloc ?_ _)); refine blk_far ?_ NB132_137.out _; refine blk_far ?_ NB132_137.out _; refine blk_far ?_ NB132_137.out _; exact bb_ BK132⟩, ⟨by (with_reducible repeat (first | refine blk_drewN ?_ _ | refine blk_drew ?_ | refine blk_alloc ?_ _)); refine blk_far ?_ NB133_137.out _; refine blk_far ?_ NB133_137.out _; refine blk_far ?_ NB133_137.out _; exact bb_ BK133⟩, ⟨by (with_reducible repeat (first | refine blk_drewN ?_ _ | refine blk_drew ?_ | refine blk_alloc ?_ _)); refine blk_far ?_ NB135_137.out _; refine blk_far ?_ NB135_137.out _; refine blk_far ?_ NB135_137.out _; exact bb_ BK135⟩, ⟨by (with_reducible repeat (first | refine blk_drewN ?_ _ | refine blk_drew ?_ | refine blk_alloc ?_ _)); refine blk_put (cs := #[.string ((rd_T67 l0_0 x7_1).f0), .string ((rd_T67 l0_0 x7_1).f1), .int .i64 0]) ?_ 2 _ rfl; refine blk_put (cs := #[.string ((rd_T67 l0_0 x7_1).f0), .string (⟨#[]⟩ : ByteArray), .int .i64 0]) ?_ 1 _ rfl; refine blk_put (cs := #[.string (⟨#[]⟩ : ByteArray), .string (⟨#[]⟩ : ByteArray), .int .i64 0]) ?_ 0 _ rfl; exact bb_ BK137⟩, ⟨hh_ HB⟩⟩
      case rest =>
       clear HC16
       try clear c1
       try clear p1
       try clear q1
       try clear hx1
       try clear c2
       try clear p2
       try clear c3
       try clear c4
       try clear c7
       try clear c11
       try clear c12
       try clear c13
       try clear p13
       try clear q13
       try clear hx13
       try clear c14
       try clear c14b0
       try clear c15
       try clear c15b0
       try clear c17
       try clear c18
       try clear c21
       try clear c22
       try clear c23
       try clear c25
       try clear c25b0
       try clear hcz13_0
       try clear hcz19_0
       try clear hcz24_0
       try clear hcz24_1
       try clear hcz24_2
       try clear hcz8_0
       try clear hfz13_0
       try clear hfz19_0
       try clear hfz24_0
       try clear hfz24_1
       try clear hfz24_2
       try clear hfz8_0
       try clear hx136_0
       try clear hx136_1
       try clear hx136_2
       try clear hx138_0
       try clear p136
       try clear p138
       try clear p2
       try clear q136
       try clear q138
       obtain ⟨kq, x9_15, rfl, HA, HJ15, HO_136000, BK132, BK133, BK135, BK137, HB⟩ := hcut
       cases kq with
       | zero => exact absurd HA.out (by simp [spec_LoseDisk.j1])
       | succ kj15 =>
        have H := HA.out
        clear HA
        simp only [spec_LoseDisk.j1] at H
        by_cases c26 : x9_15 > (((rd_T67 l0_0 x7_1).f1).size : Int)
        ·rw [if_pos c26] at H
         have c26b0 : decide ((((rd_T67 l0_0 x7_1).f1).size : Int) < x9_15) = true := decide_eq_true c26
         clear c26
         by_cases c27 : (((rd_T67 l0_0 x7_1).f1).size : Int) < ((rd_T67 l0_0 x7_1).f2)
         ·rw [if_pos c27] at H
          have c27b0 : decide ((((rd_T67 l0_0 x7_1).f1).size : Int) < ((rd_T67 l0_0 x7_1).f2)) = true := decide_eq_true c27
          clear c27
          by_cases c28 : 0 ≤ ((rd_T67 l0_0 x7_1).f2)
          ·rw [if_pos c28] at H
           have c28b0 := eq_true c28
           have c28b1 : decide (0 ≤ ((rd_T67 l0_0 x7_1).f2)) = true := decide_eq_true c28
           clear c28
           by_cases c29 : ((rd_T67 l0_0 x7_1).f2) ≤ (((rd_T67 l0_0 x7_1).f1).size : Int)
           ·rw [if_pos c29] at H
            have c29b0 := eq_true c29
            have c29b1 : decide (((rd_T67 l0_0 x7_1).f2) ≤ (((rd_T67 l0_0 x7_1).f1).size : Int)) = true := decide_eq_true c29
            clear c29
            by_cases c30 : x136000_1.length < 3518437208883
            ·rw [if_pos c30] at H
             have LMc30 := Aside0.mk c30
             clear c30
             obtain ⟨y139, hy139⟩ : ∃ y_ : List (S67), y_ = (x136000_1 ++ [(⟨((rd_T67 l0_0 x7_1).f0), ((rd_T67 l0_0 x7_1).f1).extract 0 (((rd_T67 l0_0 x7_1).f2) : Int).toNat, ((rd_T67 l0_0 x7_1).f2)⟩ : S67)]) := ⟨_, rfl⟩
             replace H : (spec_LoseDisk.l0 kj15 l1 (wrap64 (x7_1 + 1)) l0_0 y139) = some (r1, r2) := by first | (rw [hy139]; with_reducible exact H) | (have H2_ := (Option.bind_some _ _).symm.trans H; rw [hy139]; with_reducible exact H2_) | (have H2_ := (Option.bind_some _ _).symm.trans H; with_reducible exact H2_) | with_reducible exact H | (rw [hy139]; exact H) | exact H
             have Ny139 := Aside0.mk hy139
             clear hy139
             have H' := Aside0.mk H
             clear H
             have hnb31 := NB137_132.out; have hnc31 := NB132_137.out; have hnb32 := NB137_133.out; have hnc32 := NB133_137.out; have hnb33 := NB137_135.out; have hnc33 := NB135_137.out
             have hcz34_0 : wc.cell? ⟨gb137, 0, none⟩ = some (.string ((rd_T67 l0_0 x7_1).f0)) := (blk_cell BK137.out 0).trans rfl
             have hcz34_1 : wc.cell? ⟨gb137, 1, none⟩ = some (.string ((rd_T67 l0_0 x7_1).f1)) := (blk_cell BK137.out 1).trans rfl
             have hcz34_2 : wc.cell? ⟨gb137, 2, none⟩ = some (.int .i64 ((rd_T67 l0_0 x7_1).f2)) := (blk_cell BK137.out 2).trans rfl
             have hfz34_0 := blk_frozen BK137.out 0
             have hfz34_1 := blk_frozen BK137.out 1
             have hfz34_2 := blk_frozen BK137.out 2
             try go_wp2
             have n0_ := Aside0.mk (Kd.R_drew HO_136000.out)
             have n1_ := Aside0.mk (blk_drew BK132.out)
             have n2_ := Aside0.mk (blk_drew BK133.out)
             have n3_ := Aside0.mk (blk_drew BK135.out)
             have n4_ := Aside0.mk (blk_drew BK137.out)
             have n5_ := Aside0.mk (below_drew1 HB.out)
             clear HO_136000 BK132 BK133 BK135 BK137 HB
             have HO_136000 := n0_; have BK132 := n1_; have BK133 := n2_; have BK135 := n3_; have BK137 := n4_; have HB := n5_
             clear n0_ n1_ n2_ n3_ n4_ n5_
             refine start_ (n := 14) (S := fun w' => w'.cell? ⟨gb135, 0, none⟩ = some (u136000) ∧ w'.cell? ⟨gb137, 0, none⟩ = some (.string ((rd_T67 l0_0 x7_1).f0)) ∧ w'.cell? ⟨gb137, 1, none⟩ = some (.string ((rd_T67 l0_0 x7_1).f1)) ∧ w'.cell? ⟨gb137, 2, none⟩ = some (.int .i64 ((rd_T67 l0_0 x7_1).f2))) (ds := [13]) #[false, false, false, false, false, false, false, false, false, false, false, false, false, false] (by kernel_rfl) rfl rfl ⟨(blk_cell BK135.out 0).trans rfl, (blk_cell BK137.out 0).trans rfl, (blk_cell BK137.out 1).trans rfl, (blk_cell BK137.out 2).trans rfl⟩ (fun hHeld => ?_); refine with_tabW spec_LoseDisk.tab15 spec_LoseDisk.bits15 (fun HT_ HW_ => ?_)
             generalize wc.drew = w35 at HO_136000 BK132 BK133 BK135 BK137 HB hHeld ⊢
             refine pure_ (i := 0) (N := some 49) (v := ?_) (a' := ?_) #[true, false, false, false, false, false, false, false, false, false, false, false, false, false] rfl rfl (any_of HT_.out (by kernel_rfl)) (fun _ _ _ h => h) (Or.inl ⟨by rfl, ?_⟩) ?_ ?_
             rotate_left
             ·intro w'
              go_simp
              with_reducible rfl
             rotate_left
             ·simp only [Act.put, List.setIfInBounds_toArray, List.set_cons_zero, List.set_cons_succ, i64_w, i32_w]
              rfl
             refine pure_ (i := 2) (N := some 51) (v := ?_) (a' := ?_) #[true, false, true, false, false, false, false, false, false, false, false, false, false, false] rfl rfl (any_of HT_.out (by kernel_rfl)) (fun _ _ _ h => h) (Or.inl ⟨by rfl, ?_⟩) ?_ ?_
             rotate_left
             ·intro w'
              go_simp
              with_reducible rfl
             rotate_left
             ·simp only [Act.put, List.setIfInBounds_toArray, List.set_cons_zero, List.set_cons_succ, i64_w, i32_w]
              rfl
             refine pure_ (i := 4) (N := some 53) (v := ?_) (a' := ?_) #[true, false, true, false, true, false, false, false, false, false, false, false, false, false] rfl rfl (any_of HT_.out (by kernel_rfl)) (fun _ _ _ h => h) (Or.inl ⟨by rfl, ?_⟩) ?_ ?_
             rotate_left
             ·intro w'
              go_simp
              with_reducible rfl
             rotate_left
             ·simp only [Act.put, List.setIfInBounds_toArray, List.set_cons_zero, List.set_cons_succ, i64_w, i32_w]
              rfl
             refine pure_ (i := 6) (N := some 55) (v := ?_) (a' := ?_) #[true, false, true, false, true, false, true, false, false, false, false, false, false, false] rfl rfl (any_of HT_.out (by kernel_rfl)) (fun _ _ _ h => h) (Or.inl ⟨by rfl, ?_⟩) ?_ ?_
             rotate_left
             ·intro w'
              go_simp
              with_reducible rfl
             rotate_left
             ·simp only [Act.put, List.setIfInBounds_toArray, List.set_cons_zero, List.set_cons_succ, i64_w, i32_w]
              rfl
             refine pure_ (i := 8) (N := some 57) (v := ?_) (a' := ?_) #[true, false, true, false, true, false, true, false, true, false, false, false, false, false] rfl rfl (any_of HT_.out (by kernel_rfl)) (fun _ _ _ h => h) (Or.inl ⟨by rfl, ?_⟩) ?_ ?_
             rotate_left
             ·intro w'
              go_simp
              with_reducible rfl
             rotate_left
             ·simp only [Act.put, List.setIfInBounds_toArray, List.set_cons_zero, List.set_cons_succ, i64_w, i32_w]
              rfl
             refine take_ (i := 1) (N := some 50) (v := ?_) (a' := ?_) #[true, true, true, false, true, false, true, false, true, false, false, false, false, false] rfl rfl (take_ofW HT_.out HW_.out (by kernel_rfl)) (fun _ _ _ h => h) (Or.inl ⟨by rfl, ?_⟩) hHeld ?_ ?_
             rotate_left
             ·rintro w' ⟨s0, s1, s2, s3⟩
              go_simp
              with_reducible rfl
             rotate_left
             ·simp only [Act.put, List.setIfInBounds_toArray, List.set_cons_zero, List.set_cons_succ, i64_w, i32_w]
              rfl
             refine take_ (i := 3) (N := some 52) (v := ?_) (a' := ?_) #[true, true, true, true, true, false, true, false, true, false, false, false, false, false] rfl rfl (take_ofW HT_.out HW_.out (by kernel_rfl)) (fun _ _ _ h => h) (Or.inl ⟨by rfl, ?_⟩) hHeld ?_ ?_
             rotate_left
             ·rintro w' ⟨s0, s1, s2, s3⟩
              go_simp
              with_reducible rfl
             rotate_left
             ·simp only [Act.put, List.setIfInBounds_toArray, List.set_cons_zero, List.set_cons_succ, i64_w, i32_w]
              rfl
             refine take_ (i := 5) (N := some 54) (v := ?_) (a' := ?_) #[true, true, true, true, true, true, true, false, true, false, false, false, false, false] rfl rfl (take_ofW HT_.out HW_.out (by kernel_rfl)) (fun _ _ _ h => h) (Or.inl ⟨by rfl, ?_⟩) hHeld ?_ ?_
             rotate_left
             ·rintro w' ⟨s0, s1, s2, s3⟩
              go_simp
              with_reducible rfl
             rotate_left
             ·simp only [Act.put, List.setIfInBounds_toArray, List.set_cons_zero, List.set_cons_succ, i64_w, i32_w]
              rfl
             refine pure_ (i := 7) (N := some 56) (v := ?_) (a' := ?_) #[true, true, true, true, true, true, true, true, true, false, false, false, false, false] rfl rfl (any_of HT_.out (by kernel_rfl)) (fun _ _ _ h => h) (Or.inl ⟨by rfl, ?_⟩) ?_ ?_
             rotate_left
             ·intro w'
              go_simp
              with_reducible rfl
             rotate_left
             ·simp only [Act.put, List.setIfInBounds_toArray, List.set_cons_zero, List.set_cons_succ, i64_w, i32_w]
              rfl
             refine pure_ (i := 9) (N := some 58) (v := ?_) (a' := ?_) #[true, true, true, true, true, true, true, true, true, true, false, false, false, false] rfl rfl (any_of HT_.out (by kernel_rfl)) (fun _ _ _ h => h) (Or.inl ⟨by rfl, ?_⟩) ?_ ?_
             rotate_left
             ·intro w'
              go_simp
              with_reducible rfl
             rotate_left
             ·simp only [Act.put, List.setIfInBounds_toArray, List.set_cons_zero, List.set_cons_succ, i64_w, i32_w]
              rfl
             refine one_ (i := 10) (N := some 59) #[true, true, true, true, true, true, true, true, true, true, true, false, false, false] rfl rfl (one_of HT_.out (by kernel_rfl)) (by decide) (fun K hK => ?_)
             refine value_ (w1 := ?_) (v := ?_) (by rfl) rfl ?_ ?_
             rotate_left 2
             ·go_simp
              constructor
              ·rfl
              ·rfl
             refine hK.out _ _ ⟨(blk_cell (blk_alloc BK135.out _) 0).trans rfl, (blk_cell (blk_alloc BK137.out _) 0).trans rfl, (blk_cell (blk_alloc BK137.out _) 1).trans rfl, (blk_cell (blk_alloc BK137.out _) 2).trans rfl⟩ (fun hHeld => ?_)
             clear hK K
             refine norm_ (a' := ?_) ?_ ?_
             rotate_left
             ·show Act.put _ (some 59) _ = _
              simp only [Act.put, List.setIfInBounds_toArray, List.set_cons_zero, List.set_cons_succ, i64_w, i32_w]
              rfl
             refine one_ (i := 11) (N := some 60) #[true, true, true, true, true, true, true, true, true, true, true, true, false, false] rfl rfl (one_of HT_.out (by kernel_rfl)) (by decide) (fun K hK => ?_)
             refine Kd.R_append_step k67 (w0 := w) w.heap.size (by rfl) (.tmp 50) (.tmp 59) 27 67 (.agg #[(.string ⟨#[]⟩), (.string ⟨#[]⟩), (.int .i64 0)]) 40 rfl Try.underlying27 info67 rfl (by decide) (by omega) u136000 x136000_1 (⟨((rd_T67 l0_0 x7_1).f0), ((rd_T67 l0_0 x7_1).f1).extract 0 (((rd_T67 l0_0 x7_1).f2) : Int).toNat, ((rd_T67 l0_0 x7_1).f2)⟩ : S67) [.string ((rd_T67 l0_0 x7_1).f0), .string (((rd_T67 l0_0 x7_1).f1).extract 0 (((rd_T67 l0_0 x7_1).f2) : Int).toNat), .int .i64 ((rd_T67 l0_0 x7_1).f2)] (fun k_ => k_ ≠ gb137) (fun _ => False) rfl rfl ?aP (fun _ hk => hk.elim) ?aF ?aO ?aB ?aS ?aL ?_
             (case aP => exact k67_mkM _ _ _ (⟨((rd_T67 l0_0 x7_1).f0), ((rd_T67 l0_0 x7_1).f1).extract 0 (((rd_T67 l0_0 x7_1).f2) : Int).toNat, ((rd_T67 l0_0 x7_1).f2)⟩ : S67))
             (case aB => exact HB.out)
             (case aF => exact (fun k_ hk => Kd.freshB (g := gb137) (o := .cells #[.string ((rd_T67 l0_0 x7_1).f0), .string ((rd_T67 l0_0 x7_1).f1), .int .i64 ((rd_T67 l0_0 x7_1).f2)] 67 (0, 0)) BK137.out k_ hk))
             (case aO => exact HO_136000.out)
             (case aS => exact (below_size HB.out))
             (case aL => have := LMc30.out; omega)
             intro v140 w36 ho hb hg hat
             rw [← Ny139.out] at ho
             have n0_ := Aside0.mk (blk_grown (g := gb132) (o := .cells #[.slice (some ad136) l0_0.length c0_0] 29 (0, 0)) BK132.out hg (Kd.R_ne HO_136000.out BK132.out (by decide)))
             have n1_ := Aside0.mk (blk_grown (g := gb133) (o := .cells #[.slice none 0 0] 29 (0, 0)) BK133.out hg (Kd.R_ne HO_136000.out BK133.out (by decide)))
             have n2_ := Aside0.mk (blk_grown (g := gb135) (o := .cells #[u136000] 29 (0, 0)) BK135.out hg (Kd.R_ne HO_136000.out BK135.out (by decide)))
             have n3_ := Aside0.mk (blk_grown (g := gb137) (o := .cells #[.string ((rd_T67 l0_0 x7_1).f0), .string ((rd_T67 l0_0 x7_1).f1), .int .i64 ((rd_T67 l0_0 x7_1).f2)] 67 (0, 0)) BK137.out hg (Kd.R_away HO_136000.out (fun _ hk => hk)))
             have n4_ := Aside0.mk (hb)
             have n5_ := Aside0.mk (ho)
             clear BK132 BK133 BK135 BK137 HB HO_136000
             have BK132 := n0_; have BK133 := n1_; have BK135 := n2_; have BK137 := n3_; have HB := n4_; have HO141 := n5_
             clear n0_ n1_ n2_ n3_ n4_ n5_ ho hb hg hat
             obtain ⟨Ao37, co37, eo37⟩ := Kd.R_slice HO141.out
             (first | subst eo37 | (injection eo37 with f1_ f2_ f3_; have f4_ := f1_.symm; have f5_ := f3_.symm; clear f1_ f2_ f3_; subst f4_; subst f5_))
             refine hK.out _ _ ⟨(blk_cell BK135.out 0).trans rfl, (blk_cell BK137.out 0).trans rfl, (blk_cell BK137.out 1).trans rfl, (blk_cell BK137.out 2).trans rfl⟩ (fun hHeld => ?_)
             clear hK K
             refine norm_ (a' := ?_) ?_ ?_
             rotate_left
             ·show Act.put _ (some 60) _ = _
              simp only [Act.put, List.setIfInBounds_toArray, List.set_cons_zero, List.set_cons_succ, i64_w, i32_w]
              rfl
             refine pure_ (i := 12) (N := some 61) (v := ?_) (a' := ?_) #[true, true, true, true, true, true, true, true, true, true, true, true, true, false] rfl rfl (any_of HT_.out (by kernel_rfl)) (fun _ _ _ h => h) (Or.inl ⟨by rfl, ?_⟩) ?_ ?_
             rotate_left
             ·intro w'
              go_simp
              with_reducible rfl
             rotate_left
             ·simp only [Act.put, List.setIfInBounds_toArray, List.set_cons_zero, List.set_cons_succ, i64_w, i32_w]
              rfl
             refine last_ (i := 13) (N := none) #[true, true, true, true, true, true, true, true, true, true, true, true, true, true] rfl rfl (one_of HT_.out (by kernel_rfl)) (by decide) (fun K hK => ?_)
             have hs38 : w36.cell? ⟨gb135, 0, none⟩ = some (u136000) := (blk_cell BK135.out 0).trans rfl
             have hfs38 := blk_frozen BK135.out 0
             have hns38_0 := NB132_135.out; have hns38_1 := NB133_135.out; have hns38_3 := NB137_135.out; have hms38_0 := NB135_132.out; have hms38_1 := NB135_133.out; have hms38_3 := NB135_137.out
             refine skip_ (w1 := ?_) (by rfl) rfl ?_ ?_
             rotate_left
             ·go_simp
              rfl
             refine hK.out _ _ ?_
             clear hK K
             refine done_ (done_of HT_.out (by kernel_rfl)) ?_
             try go_wp2
             go_roundg kj15
             case measure => have := HK1.out; have := HJ15.out; omega
             case rel => exact ⟨(wrap64 (x7_1 + 1)), (y139), (.slice Ao37 y139.length co37), (by first | rfl | (simp; done) | (simp [*]; done)), H', ⟨by have := HK1.out; have := HJ15.out; omega⟩, ⟨by (with_reducible repeat (first | apply Kd.R_alloc | apply Kd.R_drewN | apply Kd.R_drew)); exact Kd.R_mono (Kd.R_far (p := ⟨gb135, 0, none⟩) (Kd.R_types HO141.out BK135.out (by decide)) (fun _ hk => hk.2) (.slice Ao37 y139.length co37)) (fun _ hk => trivial)⟩, ⟨by (with_reducible repeat (first | refine blk_drewN ?_ _ | refine blk_drew ?_ | refine blk_alloc ?_ _)); refine blk_far ?_ NB132_135.out _; exact bb_ BK132⟩, ⟨by (with_reducible repeat (first | refine blk_drewN ?_ _ | refine blk_drew ?_ | refine blk_alloc ?_ _)); refine blk_far ?_ NB133_135.out _; exact bb_ BK133⟩, ⟨by (with_reducible repeat (first | refine blk_drewN ?_ _ | refine blk_drew ?_ | refine blk_alloc ?_ _)); refine blk_put (cs := #[u136000]) ?_ 0 _ rfl; exact bb_ BK135⟩, ⟨hh_ HB⟩⟩
            ·rw [if_neg c30] at H
             exact absurd H (by simp)
           ·rw [if_neg c29] at H
            exact absurd H (by simp)
          ·rw [if_neg c28] at H
           exact absurd H (by simp)
         ·rw [if_neg c27] at H
          have c27b0 : decide ((((rd_T67 l0_0 x7_1).f1).size : Int) < ((rd_T67 l0_0 x7_1).f2)) = false := decide_eq_false c27
          clear c27
          by_cases c39 : 0 ≤ (((rd_T67 l0_0 x7_1).f1).size : Int)
          ·rw [if_pos c39] at H
           have c39b0 := eq_true c39
           have c39b1 : decide (0 ≤ (((rd_T67 l0_0 x7_1).f1).size : Int)) = true := decide_eq_true c39
           clear c39
           by_cases c40 : (((rd_T67 l0_0 x7_1).f1).size : Int) ≤ (((rd_T67 l0_0 x7_1).f1).size : Int)
           ·rw [if_pos c40] at H
            have c40b0 := eq_true c40
            have c40b1 : decide ((((rd_T67 l0_0 x7_1).f1).size : Int) ≤ (((rd_T67 l0_0 x7_1).f1).size : Int)) = true := decide_eq_true c40
            clear c40
            by_cases c41 : x136000_1.length < 3518437208883
            ·rw [if_pos c41] at H
             have LMc41 := Aside0.mk c41
             clear c41
             obtain ⟨y142, hy142⟩ : ∃ y_ : List (S67), y_ = (x136000_1 ++ [(⟨((rd_T67 l0_0 x7_1).f0), ((rd_T67 l0_0 x7_1).f1), (((rd_T67 l0_0 x7_1).f1).size : Int)⟩ : S67)]) := ⟨_, rfl⟩
             replace H : (spec_LoseDisk.l0 kj15 l1 (wrap64 (x7_1 + 1)) l0_0 y142) = some (r1, r2) := by first | (rw [hy142]; with_reducible exact H) | (have H2_ := (Option.bind_some _ _).symm.trans H; rw [hy142]; with_reducible exact H2_) | (have H2_ := (Option.bind_some _ _).symm.trans H; with_reducible exact H2_) | with_reducible exact H | (rw [hy142]; exact H) | exact H
             have Ny142 := Aside0.mk hy142
             clear hy142
             have H' := Aside0.mk H
             clear H
             have hnb42 := NB137_132.out; have hnc42 := NB132_137.out; have hnb43 := NB137_133.out; have hnc43 := NB133_137.out; have hnb44 := NB137_135.out; have hnc44 := NB135_137.out
             have hcz45_0 : wc.cell? ⟨gb137, 0, none⟩ = some (.string ((rd_T67 l0_0 x7_1).f0)) := (blk_cell BK137.out 0).trans rfl
             have hcz45_1 : wc.cell? ⟨gb137, 1, none⟩ = some (.string ((rd_T67 l0_0 x7_1).f1)) := (blk_cell BK137.out 1).trans rfl
             have hcz45_2 : wc.cell? ⟨gb137, 2, none⟩ = some (.int .i64 ((rd_T67 l0_0 x7_1).f2)) := (blk_cell BK137.out 2).trans rfl
             have hfz45_0 := blk_frozen BK137.out 0
             have hfz45_1 := blk_frozen BK137.out 1
             have hfz45_2 := blk_frozen BK137.out 2
             try go_wp2
             have n0_ := Aside0.mk (Kd.R_drew HO_136000.out)
             have n1_ := Aside0.mk (blk_drew BK132.out)
             have n2_ := Aside0.mk (blk_drew BK133.out)
             have n3_ := Aside0.mk (blk_drew BK135.out)
             have n4_ := Aside0.mk (blk_drew BK137.out)
             have n5_ := Aside0.mk (below_drew1 HB.out)
             clear HO_136000 BK132 BK133 BK135 BK137 HB
             have HO_136000 := n0_; have BK132 := n1_; have BK133 := n2_; have BK135 := n3_; have BK137 := n4_; have HB := n5_
             clear n0_ n1_ n2_ n3_ n4_ n5_
             refine start_ (n := 14) (S := fun w' => w'.cell? ⟨gb135, 0, none⟩ = some (u136000) ∧ w'.cell? ⟨gb137, 0, none⟩ = some (.string ((rd_T67 l0_0 x7_1).f0)) ∧ w'.cell? ⟨gb137, 1, none⟩ = some (.string ((rd_T67 l0_0 x7_1).f1)) ∧ w'.cell? ⟨gb137, 2, none⟩ = some (.int .i64 ((rd_T67 l0_0 x7_1).f2))) (ds := [13]) #[false, false, false, false, false, false, false, false, false, false, false, false, false, false] (by kernel_rfl) rfl rfl ⟨(blk_cell BK135.out 0).trans rfl, (blk_cell BK137.out 0).trans rfl, (blk_cell BK137.out 1).trans rfl, (blk_cell BK137.out 2).trans rfl⟩ (fun hHeld => ?_); refine with_tabW spec_LoseDisk.tab15 spec_LoseDisk.bits15 (fun HT_ HW_ => ?_)
             generalize wc.drew = w46 at HO_136000 BK132 BK133 BK135 BK137 HB hHeld ⊢
             refine pure_ (i := 0) (N := some 49) (v := ?_) (a' := ?_) #[true, false, false, false, false, false, false, false, false, false, false, false, false, false] rfl rfl (any_of HT_.out (by kernel_rfl)) (fun _ _ _ h => h) (Or.inl ⟨by rfl, ?_⟩) ?_ ?_
             rotate_left
             ·intro w'
              go_simp
              with_reducible rfl
             rotate_left
             ·simp only [Act.put, List.setIfInBounds_toArray, List.set_cons_zero, List.set_cons_succ, i64_w, i32_w]
              rfl
             refine pure_ (i := 2) (N := some 51) (v := ?_) (a' := ?_) #[true, false, true, false, false, false, false, false, false, false, false, false, false, false] rfl rfl (any_of HT_.out (by kernel_rfl)) (fun _ _ _ h => h) (Or.inl ⟨by rfl, ?_⟩) ?_ ?_
             rotate_left
             ·intro w'
              go_simp
              with_reducible rfl
             rotate_left
             ·simp only [Act.put, List.setIfInBounds_toArray, List.set_cons_zero, List.set_cons_succ, i64_w, i32_w]
              rfl
             refine pure_ (i := 4) (N := some 53) (v := ?_) (a' := ?_) #[true, false, true, false, true, false, false, false, false, false, false, false, false, false] rfl rfl (any_of HT_.out (by kernel_rfl)) (fun _ _ _ h => h) (Or.inl ⟨by rfl, ?_⟩) ?_ ?_
             rotate_left
             ·intro w'
              go_simp
              with_reducible rfl
             rotate_left
             ·simp only [Act.put, List.setIfInBounds_toArray, List.set_cons_zero, List.set_cons_succ, i64_w, i32_w]
              rfl
             refine pure_ (i := 6) (N := some 55) (v := ?_) (a' := ?_) #[true, false, true, false, true, false, true, false, false, false, false, false, false, false] rfl rfl (any_of HT_.out (by kernel_rfl)) (fun _ _ _ h => h) (Or.inl ⟨by rfl, ?_⟩) ?_ ?_
             rotate_left
             ·intro w'
              go_simp
              with_reducible rfl
             rotate_left
             ·simp only [Act.put, List.setIfInBounds_toArray, List.set_cons_zero, List.set_cons_succ, i64_w, i32_w]
              rfl
             refine pure_ (i := 8) (N := some 57) (v := ?_) (a' := ?_) #[true, false, true, false, true, false, true, false, true, false, false, false, false, false] rfl rfl (any_of HT_.out (by kernel_rfl)) (fun _ _ _ h => h) (Or.inl ⟨by rfl, ?_⟩) ?_ ?_
             rotate_left
             ·intro w'
              go_simp
              with_reducible rfl
             rotate_left
             ·simp only [Act.put, List.setIfInBounds_toArray, List.set_cons_zero, List.set_cons_succ, i64_w, i32_w]
              rfl
             refine take_ (i := 1) (N := some 50) (v := ?_) (a' := ?_) #[true, true, true, false, true, false, true, false, true, false, false, false, false, false] rfl rfl (take_ofW HT_.out HW_.out (by kernel_rfl)) (fun _ _ _ h => h) (Or.inl ⟨by rfl, ?_⟩) hHeld ?_ ?_
             rotate_left
             ·rintro w' ⟨s0, s1, s2, s3⟩
              go_simp
              with_reducible rfl
             rotate_left
             ·simp only [Act.put, List.setIfInBounds_toArray, List.set_cons_zero, List.set_cons_succ, i64_w, i32_w]
              rfl
             refine take_ (i := 3) (N := some 52) (v := ?_) (a' := ?_) #[true, true, true, true, true, false, true, false, true, false, false, false, false, false] rfl rfl (take_ofW HT_.out HW_.out (by kernel_rfl)) (fun _ _ _ h => h) (Or.inl ⟨by rfl, ?_⟩) hHeld ?_ ?_
             rotate_left
             ·rintro w' ⟨s0, s1, s2, s3⟩
              go_simp
              with_reducible rfl
             rotate_left
             ·simp only [Act.put, List.setIfInBounds_toArray, List.set_cons_zero, List.set_cons_succ, i64_w, i32_w]
              rfl
             refine take_ (i := 5) (N := some 54) (v := ?_) (a' := ?_) #[true, true, true, true, true, true, true, false, true, false, false, false, false, false] rfl rfl (take_ofW HT_.out HW_.out (by kernel_rfl)) (fun _ _ _ h => h) (Or.inl ⟨by rfl, ?_⟩) hHeld ?_ ?_
             rotate_left
             ·rintro w' ⟨s0, s1, s2, s3⟩
              go_simp
              with_reducible rfl
             rotate_left
             ·simp only [Act.put, List.setIfInBounds_toArray, List.set_cons_zero, List.set_cons_succ, i64_w, i32_w]
              rfl
             refine pure_ (i := 7) (N := some 56) (v := ?_) (a' := ?_) #[true, true, true, true, true, true, true, true, true, false, false, false, false, false] rfl rfl (any_of HT_.out (by kernel_rfl)) (fun _ _ _ h => h) (Or.inl ⟨by rfl, ?_⟩) ?_ ?_
             rotate_left
             ·intro w'
              go_simp
              with_reducible rfl
             rotate_left
             ·simp only [Act.put, List.setIfInBounds_toArray, List.set_cons_zero, List.set_cons_succ, i64_w, i32_w]
              rfl
             refine pure_ (i := 9) (N := some 58) (v := ?_) (a' := ?_) #[true, true, true, true, true, true, true, true, true, true, false, false, false, false] rfl rfl (any_of HT_.out (by kernel_rfl)) (fun _ _ _ h => h) (Or.inl ⟨by rfl, ?_⟩) ?_ ?_
             rotate_left
             ·intro w'
              go_simp
              with_reducible rfl
             rotate_left
             ·simp only [Act.put, List.setIfInBounds_toArray, List.set_cons_zero, List.set_cons_succ, i64_w, i32_w]
              rfl
             refine one_ (i := 10) (N := some 59) #[true, true, true, true, true, true, true, true, true, true, true, false, false, false] rfl rfl (one_of HT_.out (by kernel_rfl)) (by decide) (fun K hK => ?_)
             refine value_ (w1 := ?_) (v := ?_) (by rfl) rfl ?_ ?_
             rotate_left 2
             ·go_simp
              constructor
              ·rfl
              ·rfl
             refine hK.out _ _ ⟨(blk_cell (blk_alloc BK135.out _) 0).trans rfl, (blk_cell (blk_alloc BK137.out _) 0).trans rfl, (blk_cell (blk_alloc BK137.out _) 1).trans rfl, (blk_cell (blk_alloc BK137.out _) 2).trans rfl⟩ (fun hHeld => ?_)
             clear hK K
             refine norm_ (a' := ?_) ?_ ?_
             rotate_left
             ·show Act.put _ (some 59) _ = _
              simp only [Act.put, List.setIfInBounds_toArray, List.set_cons_zero, List.set_cons_succ, i64_w, i32_w]
              rfl
             refine one_ (i := 11) (N := some 60) #[true, true, true, true, true, true, true, true, true, true, true, true, false, false] rfl rfl (one_of HT_.out (by kernel_rfl)) (by decide) (fun K hK => ?_)
             refine Kd.R_append_step k67 (w0 := w) w.heap.size (by rfl) (.tmp 50) (.tmp 59) 27 67 (.agg #[(.string ⟨#[]⟩), (.string ⟨#[]⟩), (.int .i64 0)]) 40 rfl Try.underlying27 info67 rfl (by decide) (by omega) u136000 x136000_1 (⟨((rd_T67 l0_0 x7_1).f0), ((rd_T67 l0_0 x7_1).f1), (((rd_T67 l0_0 x7_1).f1).size : Int)⟩ : S67) [.string ((rd_T67 l0_0 x7_1).f0), .string (((rd_T67 l0_0 x7_1).f1)), .int .i64 (((rd_T67 l0_0 x7_1).f1).size : Int)] (fun k_ => k_ ≠ gb137) (fun _ => False) rfl rfl ?aP (fun _ hk => hk.elim) ?aF ?aO ?aB ?aS ?aL ?_
             (case aP => exact k67_mkM _ _ _ (⟨((rd_T67 l0_0 x7_1).f0), ((rd_T67 l0_0 x7_1).f1), (((rd_T67 l0_0 x7_1).f1).size : Int)⟩ : S67))
             (case aB => exact HB.out)
             (case aF => exact (fun k_ hk => Kd.freshB (g := gb137) (o := .cells #[.string ((rd_T67 l0_0 x7_1).f0), .string ((rd_T67 l0_0 x7_1).f1), .int .i64 ((rd_T67 l0_0 x7_1).f2)] 67 (0, 0)) BK137.out k_ hk))
             (case aO => exact HO_136000.out)
             (case aS => exact (below_size HB.out))
             (case aL => have := LMc41.out; omega)
             intro v143 w47 ho hb hg hat
             rw [← Ny142.out] at ho
             have n0_ := Aside0.mk (blk_grown (g := gb132) (o := .cells #[.slice (some ad136) l0_0.length c0_0] 29 (0, 0)) BK132.out hg (Kd.R_ne HO_136000.out BK132.out (by decide)))
             have n1_ := Aside0.mk (blk_grown (g := gb133) (o := .cells #[.slice none 0 0] 29 (0, 0)) BK133.out hg (Kd.R_ne HO_136000.out BK133.out (by decide)))
             have n2_ := Aside0.mk (blk_grown (g := gb135) (o := .cells #[u136000] 29 (0, 0)) BK135.out hg (Kd.R_ne HO_136000.out BK135.out (by decide)))
             have n3_ := Aside0.mk (blk_grown (g := gb137) (o := .cells #[.string ((rd_T67 l0_0 x7_1).f0), .string ((rd_T67 l0_0 x7_1).f1), .int .i64 ((rd_T67 l0_0 x7_1).f2)] 67 (0, 0)) BK137.out hg (Kd.R_away HO_136000.out (fun _ hk => hk)))
             have n4_ := Aside0.mk (hb)
             have n5_ := Aside0.mk (ho)
             clear BK132 BK133 BK135 BK137 HB HO_136000
             have BK132 := n0_; have BK133 := n1_; have BK135 := n2_; have BK137 := n3_; have HB := n4_; have HO144 := n5_
             clear n0_ n1_ n2_ n3_ n4_ n5_ ho hb hg hat
             obtain ⟨Ao48, co48, eo48⟩ := Kd.R_slice HO144.out
             (first | subst eo48 | (injection eo48 with f1_ f2_ f3_; have f4_ := f1_.symm; have f5_ := f3_.symm; clear f1_ f2_ f3_; subst f4_; subst f5_))
             refine hK.out _ _ ⟨(blk_cell BK135.out 0).trans rfl, (blk_cell BK137.out 0).trans rfl, (blk_cell BK137.out 1).trans rfl, (blk_cell BK137.out 2).trans rfl⟩ (fun hHeld => ?_)
             clear hK K
             refine norm_ (a' := ?_) ?_ ?_
             rotate_left
             ·show Act.put _ (some 60) _ = _
              simp only [Act.put, List.setIfInBounds_toArray, List.set_cons_zero, List.set_cons_succ, i64_w, i32_w]
              rfl
             refine pure_ (i := 12) (N := some 61) (v := ?_) (a' := ?_) #[true, true, true, true, true, true, true, true, true, true, true, true, true, false] rfl rfl (any_of HT_.out (by kernel_rfl)) (fun _ _ _ h => h) (Or.inl ⟨by rfl, ?_⟩) ?_ ?_
             rotate_left
             ·intro w'
              go_simp
              with_reducible rfl
             rotate_left
             ·simp only [Act.put, List.setIfInBounds_toArray, List.set_cons_zero, List.set_cons_succ, i64_w, i32_w]
              rfl
             refine last_ (i := 13) (N := none) #[true, true, true, true, true, true, true, true, true, true, true, true, true, true] rfl rfl (one_of HT_.out (by kernel_rfl)) (by decide) (fun K hK => ?_)
             have hs49 : w47.cell? ⟨gb135, 0, none⟩ = some (u136000) := (blk_cell BK135.out 0).trans rfl
             have hfs49 := blk_frozen BK135.out 0
             have hns49_0 := NB132_135.out; have hns49_1 := NB133_135.out; have hns49_3 := NB137_135.out; have hms49_0 := NB135_132.out; have hms49_1 := NB135_133.out; have hms49_3 := NB135_137.out
             refine skip_ (w1 := ?_) (by rfl) rfl ?_ ?_
             rotate_left
             ·go_simp
              rfl
             refine hK.out _ _ ?_
             clear hK K
             refine done_ (done_of HT_.out (by kernel_rfl)) ?_
             try go_wp2
             go_roundg kj15
             case measure => have := HK1.out; have := HJ15.out; omega
             case rel => exact ⟨(wrap64 (x7_1 + 1)), (y142), (.slice Ao48 y142.length co48), (by first | rfl | (simp; done) | (simp [*]; done)), H', ⟨by have := HK1.out; have := HJ15.out; omega⟩, ⟨by (with_reducible repeat (first | apply Kd.R_alloc | apply Kd.R_drewN | apply Kd.R_drew)); exact Kd.R_mono (Kd.R_far (p := ⟨gb135, 0, none⟩) (Kd.R_types HO144.out BK135.out (by decide)) (fun _ hk => hk.2) (.slice Ao48 y142.length co48)) (fun _ hk => trivial)⟩, ⟨by (with_reducible repeat (first | refine blk_drewN ?_ _ | refine blk_drew ?_ | refine blk_alloc ?_ _)); refine blk_far ?_ NB132_135.out _; exact bb_ BK132⟩, ⟨by (with_reducible repeat (first | refine blk_drewN ?_ _ | refine blk_drew ?_ | refine blk_alloc ?_ _)); refine blk_far ?_ NB133_135.out _; exact bb_ BK133⟩, ⟨by (with_reducible repeat (first | refine blk_drewN ?_ _ | refine blk_drew ?_ | refine blk_alloc ?_ _)); refine blk_put (cs := #[u136000]) ?_ 0 _ rfl; exact bb_ BK135⟩, ⟨hh_ HB⟩⟩
            ·rw [if_neg c41] at H
             exact absurd H (by simp)
           ·rw [if_neg c40] at H
            exact absurd H (by simp)
          ·rw [if_neg c39] at H
           exact absurd H (by simp)
        ·rw [if_neg c26] at H
         have c26b0 : decide ((((rd_T67 l0_0 x7_1).f1).size : Int) < x9_15) = false := decide_eq_false c26
         clear c26
         by_cases c50 : x9_15 < ((rd_T67 l0_0 x7_1).f2)
         ·rw [if_pos c50] at H
          have c50b0 : decide (x9_15 < ((rd_T67 l0_0 x7_1).f2)) = true := decide_eq_true c50
          clear c50
          by_cases c51 : 0 ≤ ((rd_T67 l0_0 x7_1).f2)
          ·rw [if_pos c51] at H
           have c51b0 := eq_true c51
           have c51b1 : decide (0 ≤ ((rd_T67 l0_0 x7_1).f2)) = true := decide_eq_true c51
           clear c51
           by_cases c52 : ((rd_T67 l0_0 x7_1).f2) ≤ (((rd_T67 l0_0 x7_1).f1).size : Int)
           ·rw [if_pos c52] at H
            have c52b0 := eq_true c52
            have c52b1 : decide (((rd_T67 l0_0 x7_1).f2) ≤ (((rd_T67 l0_0 x7_1).f1).size : Int)) = true := decide_eq_true c52
            clear c52
            by_cases c53 : x136000_1.length < 3518437208883
            ·rw [if_pos c53] at H
             have LMc53 := Aside0.mk c53
             clear c53
             obtain ⟨y145, hy145⟩ : ∃ y_ : List (S67), y_ = (x136000_1 ++ [(⟨((rd_T67 l0_0 x7_1).f0), ((rd_T67 l0_0 x7_1).f1).extract 0 (((rd_T67 l0_0 x7_1).f2) : Int).toNat, ((rd_T67 l0_0 x7_1).f2)⟩ : S67)]) := ⟨_, rfl⟩
             replace H : (spec_LoseDisk.l0 kj15 l1 (wrap64 (x7_1 + 1)) l0_0 y145) = some (r1, r2) := by first | (rw [hy145]; with_reducible exact H) | (have H2_ := (Option.bind_some _ _).symm.trans H; rw [hy145]; with_reducible exact H2_) | (have H2_ := (Option.bind_some _ _).symm.trans H; with_reducible exact H2_) | with_reducible exact H | (rw [hy145]; exact H) | exact H
             have Ny145 := Aside0.mk hy145
             clear hy145
             have H' := Aside0.mk H
             clear H
             have hnb54 := NB137_132.out; have hnc54 := NB132_137.out; have hnb55 := NB137_133.out; have hnc55 := NB133_137.out; have hnb56 := NB137_135.out; have hnc56 := NB135_137.out
             have hcz57_0 : wc.cell? ⟨gb137, 0, none⟩ = some (.string ((rd_T67 l0_0 x7_1).f0)) := (blk_cell BK137.out 0).trans rfl
             have hcz57_1 : wc.cell? ⟨gb137, 1, none⟩ = some (.string ((rd_T67 l0_0 x7_1).f1)) := (blk_cell BK137.out 1).trans rfl
             have hcz57_2 : wc.cell? ⟨gb137, 2, none⟩ = some (.int .i64 ((rd_T67 l0_0 x7_1).f2)) := (blk_cell BK137.out 2).trans rfl
             have hfz57_0 := blk_frozen BK137.out 0
             have hfz57_1 := blk_frozen BK137.out 1
             have hfz57_2 := blk_frozen BK137.out 2
             try go_wp2
             have n0_ := Aside0.mk (Kd.R_drew HO_136000.out)
             have n1_ := Aside0.mk (blk_drew BK132.out)
             have n2_ := Aside0.mk (blk_drew BK133.out)
             have n3_ := Aside0.mk (blk_drew BK135.out)
             have n4_ := Aside0.mk (blk_drew BK137.out)
             have n5_ := Aside0.mk (below_drew1 HB.out)
             clear HO_136000 BK132 BK133 BK135 BK137 HB
             have HO_136000 := n0_; have BK132 := n1_; have BK133 := n2_; have BK135 := n3_; have BK137 := n4_; have HB := n5_
             clear n0_ n1_ n2_ n3_ n4_ n5_
             refine start_ (n := 14) (S := fun w' => w'.cell? ⟨gb135, 0, none⟩ = some (u136000) ∧ w'.cell? ⟨gb137, 0, none⟩ = some (.string ((rd_T67 l0_0 x7_1).f0)) ∧ w'.cell? ⟨gb137, 1, none⟩ = some (.string ((rd_T67 l0_0 x7_1).f1)) ∧ w'.cell? ⟨gb137, 2, none⟩ = some (.int .i64 ((rd_T67 l0_0 x7_1).f2))) (ds := [13]) #[false, false, false, false, false, false, false, false, false, false, false, false, false, false] (by kernel_rfl) rfl rfl ⟨(blk_cell BK135.out 0).trans rfl, (blk_cell BK137.out 0).trans rfl, (blk_cell BK137.out 1).trans rfl, (blk_cell BK137.out 2).trans rfl⟩ (fun hHeld => ?_); refine with_tabW spec_LoseDisk.tab15 spec_LoseDisk.bits15 (fun HT_ HW_ => ?_)
             generalize wc.drew = w58 at HO_136000 BK132 BK133 BK135 BK137 HB hHeld ⊢
             refine pure_ (i := 0) (N := some 49) (v := ?_) (a' := ?_) #[true, false, false, false, false, false, false, false, false, false, false, false, false, false] rfl rfl (any_of HT_.out (by kernel_rfl)) (fun _ _ _ h => h) (Or.inl ⟨by rfl, ?_⟩) ?_ ?_
             rotate_left
             ·intro w'
              go_simp
              with_reducible rfl
             rotate_left
             ·simp only [Act.put, List.setIfInBounds_toArray, List.set_cons_zero, List.set_cons_succ, i64_w, i32_w]
              rfl
             refine pure_ (i := 2) (N := some 51) (v := ?_) (a' := ?_) #[true, false, true, false, false, false, false, false, false, false, false, false, false, false] rfl rfl (any_of HT_.out (by kernel_rfl)) (fun _ _ _ h => h) (Or.inl ⟨by rfl, ?_⟩) ?_ ?_
             rotate_left
             ·intro w'
              go_simp
              with_reducible rfl
             rotate_left
             ·simp only [Act.put, List.setIfInBounds_toArray, List.set_cons_zero, List.set_cons_succ, i64_w, i32_w]
              rfl
             refine pure_ (i := 4) (N := some 53) (v := ?_) (a' := ?_) #[true, false, true, false, true, false, false, false, false, false, false, false, false, false] rfl rfl (any_of HT_.out (by kernel_rfl)) (fun _ _ _ h => h) (Or.inl ⟨by rfl, ?_⟩) ?_ ?_
             rotate_left
             ·intro w'
              go_simp
              with_reducible rfl
             rotate_left
             ·simp only [Act.put, List.setIfInBounds_toArray, List.set_cons_zero, List.set_cons_succ, i64_w, i32_w]
              rfl
             refine pure_ (i := 6) (N := some 55) (v := ?_) (a' := ?_) #[true, false, true, false, true, false, true, false, false, false, false, false, false, false] rfl rfl (any_of HT_.out (by kernel_rfl)) (fun _ _ _ h => h) (Or.inl ⟨by rfl, ?_⟩) ?_ ?_
             rotate_left
             ·intro w'
              go_simp
              with_reducible rfl
             rotate_left
             ·simp only [Act.put, List.setIfInBounds_toArray, List.set_cons_zero, List.set_cons_succ, i64_w, i32_w]
              rfl
             refine pure_ (i := 8) (N := some 57) (v := ?_) (a' := ?_) #[true, false, true, false, true, false, true, false, true, false, false, false, false, false] rfl rfl (any_of HT_.out (by kernel_rfl)) (fun _ _ _ h => h) (Or.inl ⟨by rfl, ?_⟩) ?_ ?_
             rotate_left
             ·intro w'
              go_simp
              with_reducible rfl
             rotate_left
             ·simp only [Act.put, List.setIfInBounds_toArray, List.set_cons_zero, List.set_cons_succ, i64_w, i32_w]
              rfl
             refine take_ (i := 1) (N := some 50) (v := ?_) (a' := ?_) #[true, true, true, false, true, false, true, false, true, false, false, false, false, false] rfl rfl (take_ofW HT_.out HW_.out (by kernel_rfl)) (fun _ _ _ h => h) (Or.inl ⟨by rfl, ?_⟩) hHeld ?_ ?_
             rotate_left
             ·rintro w' ⟨s0, s1, s2, s3⟩
              go_simp
              with_reducible rfl
             rotate_left
             ·simp only [Act.put, List.setIfInBounds_toArray, List.set_cons_zero, List.set_cons_succ, i64_w, i32_w]
              rfl
             refine take_ (i := 3) (N := some 52) (v := ?_) (a' := ?_) #[true, true, true, true, true, false, true, false, true, false, false, false, false, false] rfl rfl (take_ofW HT_.out HW_.out (by kernel_rfl)) (fun _ _ _ h => h) (Or.inl ⟨by rfl, ?_⟩) hHeld ?_ ?_
             rotate_left
             ·rintro w' ⟨s0, s1, s2, s3⟩
              go_simp
              with_reducible rfl
             rotate_left
             ·simp only [Act.put, List.setIfInBounds_toArray, List.set_cons_zero, List.set_cons_succ, i64_w, i32_w]
              rfl
             refine take_ (i := 5) (N := some 54) (v := ?_) (a' := ?_) #[true, true, true, true, true, true, true, false, true, false, false, false, false, false] rfl rfl (take_ofW HT_.out HW_.out (by kernel_rfl)) (fun _ _ _ h => h) (Or.inl ⟨by rfl, ?_⟩) hHeld ?_ ?_
             rotate_left
             ·rintro w' ⟨s0, s1, s2, s3⟩
              go_simp
              with_reducible rfl
             rotate_left
             ·simp only [Act.put, List.setIfInBounds_toArray, List.set_cons_zero, List.set_cons_succ, i64_w, i32_w]
              rfl
             refine pure_ (i := 7) (N := some 56) (v := ?_) (a' := ?_) #[true, true, true, true, true, true, true, true, true, false, false, false, false, false] rfl rfl (any_of HT_.out (by kernel_rfl)) (fun _ _ _ h => h) (Or.inl ⟨by rfl, ?_⟩) ?_ ?_
             rotate_left
             ·intro w'
              go_simp
              with_reducible rfl
             rotate_left
             ·simp only [Act.put, List.setIfInBounds_toArray, List.set_cons_zero, List.set_cons_succ, i64_w, i32_w]
              rfl
             refine pure_ (i := 9) (N := some 58) (v := ?_) (a' := ?_) #[true, true, true, true, true, true, true, true, true, true, false, false, false, false] rfl rfl (any_of HT_.out (by kernel_rfl)) (fun _ _ _ h => h) (Or.inl ⟨by rfl, ?_⟩) ?_ ?_
             rotate_left
             ·intro w'
              go_simp
              with_reducible rfl
             rotate_left
             ·simp only [Act.put, List.setIfInBounds_toArray, List.set_cons_zero, List.set_cons_succ, i64_w, i32_w]
              rfl
             refine one_ (i := 10) (N := some 59) #[true, true, true, true, true, true, true, true, true, true, true, false, false, false] rfl rfl (one_of HT_.out (by kernel_rfl)) (by decide) (fun K hK => ?_)
             refine value_ (w1 := ?_) (v := ?_) (by rfl) rfl ?_ ?_
             rotate_left 2
             ·go_simp
              constructor
              ·rfl
              ·rfl
             refine hK.out _ _ ⟨(blk_cell (blk_alloc BK135.out _) 0).trans rfl, (blk_cell (blk_alloc BK137.out _) 0).trans rfl, (blk_cell (blk_alloc BK137.out _) 1).trans rfl, (blk_cell (blk_alloc BK137.out _) 2).trans rfl⟩ (fun hHeld => ?_)
             clear hK K
             refine norm_ (a' := ?_) ?_ ?_
             rotate_left
             ·show Act.put _ (some 59) _ = _
              simp only [Act.put, List.setIfInBounds_toArray, List.set_cons_zero, List.set_cons_succ, i64_w, i32_w]
              rfl
             refine one_ (i := 11) (N := some 60) #[true, true, true, true, true, true, true, true, true, true, true, true, false, false] rfl rfl (one_of HT_.out (by kernel_rfl)) (by decide) (fun K hK => ?_)
             refine Kd.R_append_step k67 (w0 := w) w.heap.size (by rfl) (.tmp 50) (.tmp 59) 27 67 (.agg #[(.string ⟨#[]⟩), (.string ⟨#[]⟩), (.int .i64 0)]) 40 rfl Try.underlying27 info67 rfl (by decide) (by omega) u136000 x136000_1 (⟨((rd_T67 l0_0 x7_1).f0), ((rd_T67 l0_0 x7_1).f1).extract 0 (((rd_T67 l0_0 x7_1).f2) : Int).toNat, ((rd_T67 l0_0 x7_1).f2)⟩ : S67) [.string ((rd_T67 l0_0 x7_1).f0), .string (((rd_T67 l0_0 x7_1).f1).extract 0 (((rd_T67 l0_0 x7_1).f2) : Int).toNat), .int .i64 ((rd_T67 l0_0 x7_1).f2)] (fun k_ => k_ ≠ gb137) (fun _ => False) rfl rfl ?aP (fun _ hk => hk.elim) ?aF ?aO ?aB ?aS ?aL ?_
             (case aP => exact k67_mkM _ _ _ (⟨((rd_T67 l0_0 x7_1).f0), ((rd_T67 l0_0 x7_1).f1).extract 0 (((rd_T67 l0_0 x7_1).f2) : Int).toNat, ((rd_T67 l0_0 x7_1).f2)⟩ : S67))
             (case aB => exact HB.out)
             (case aF => exact (fun k_ hk => Kd.freshB (g := gb137) (o := .cells #[.string ((rd_T67 l0_0 x7_1).f0), .string ((rd_T67 l0_0 x7_1).f1), .int .i64 ((rd_T67 l0_0 x7_1).f2)] 67 (0, 0)) BK137.out k_ hk))
             (case aO => exact HO_136000.out)
             (case aS => exact (below_size HB.out))
             (case aL => have := LMc53.out; omega)
             intro v146 w59 ho hb hg hat
             rw [← Ny145.out] at ho
             have n0_ := Aside0.mk (blk_grown (g := gb132) (o := .cells #[.slice (some ad136) l0_0.length c0_0] 29 (0, 0)) BK132.out hg (Kd.R_ne HO_136000.out BK132.out (by decide)))
             have n1_ := Aside0.mk (blk_grown (g := gb133) (o := .cells #[.slice none 0 0] 29 (0, 0)) BK133.out hg (Kd.R_ne HO_136000.out BK133.out (by decide)))
             have n2_ := Aside0.mk (blk_grown (g := gb135) (o := .cells #[u136000] 29 (0, 0)) BK135.out hg (Kd.R_ne HO_136000.out BK135.out (by decide)))
             have n3_ := Aside0.mk (blk_grown (g := gb137) (o := .cells #[.string ((rd_T67 l0_0 x7_1).f0), .string ((rd_T67 l0_0 x7_1).f1), .int .i64 ((rd_T67 l0_0 x7_1).f2)] 67 (0, 0)) BK137.out hg (Kd.R_away HO_136000.out (fun _ hk => hk)))
             have n4_ := Aside0.mk (hb)
             have n5_ := Aside0.mk (ho)
             clear BK132 BK133 BK135 BK137 HB HO_136000
             have BK132 := n0_; have BK133 := n1_; have BK135 := n2_; have BK137 := n3_; have HB := n4_; have HO147 := n5_
             clear n0_ n1_ n2_ n3_ n4_ n5_ ho hb hg hat
             obtain ⟨Ao60, co60, eo60⟩ := Kd.R_slice HO147.out
             (first | subst eo60 | (injection eo60 with f1_ f2_ f3_; have f4_ := f1_.symm; have f5_ := f3_.symm; clear f1_ f2_ f3_; subst f4_; subst f5_))
             refine hK.out _ _ ⟨(blk_cell BK135.out 0).trans rfl, (blk_cell BK137.out 0).trans rfl, (blk_cell BK137.out 1).trans rfl, (blk_cell BK137.out 2).trans rfl⟩ (fun hHeld => ?_)
             clear hK K
             refine norm_ (a' := ?_) ?_ ?_
             rotate_left
             ·show Act.put _ (some 60) _ = _
              simp only [Act.put, List.setIfInBounds_toArray, List.set_cons_zero, List.set_cons_succ, i64_w, i32_w]
              rfl
             refine pure_ (i := 12) (N := some 61) (v := ?_) (a' := ?_) #[true, true, true, true, true, true, true, true, true, true, true, true, true, false] rfl rfl (any_of HT_.out (by kernel_rfl)) (fun _ _ _ h => h) (Or.inl ⟨by rfl, ?_⟩) ?_ ?_
             rotate_left
             ·intro w'
              go_simp
              with_reducible rfl
             rotate_left
             ·simp only [Act.put, List.setIfInBounds_toArray, List.set_cons_zero, List.set_cons_succ, i64_w, i32_w]
              rfl
             refine last_ (i := 13) (N := none) #[true, true, true, true, true, true, true, true, true, true, true, true, true, true] rfl rfl (one_of HT_.out (by kernel_rfl)) (by decide) (fun K hK => ?_)
             have hs61 : w59.cell? ⟨gb135, 0, none⟩ = some (u136000) := (blk_cell BK135.out 0).trans rfl
             have hfs61 := blk_frozen BK135.out 0
             have hns61_0 := NB132_135.out; have hns61_1 := NB133_135.out; have hns61_3 := NB137_135.out; have hms61_0 := NB135_132.out; have hms61_1 := NB135_133.out; have hms61_3 := NB135_137.out
             refine skip_ (w1 := ?_) (by rfl) rfl ?_ ?_
             rotate_left
             ·go_simp
              rfl
             refine hK.out _ _ ?_
             clear hK K
             refine done_ (done_of HT_.out (by kernel_rfl)) ?_
             try go_wp2
             go_roundg kj15
             case measure => have := HK1.out; have := HJ15.out; omega
             case rel => exact ⟨(wrap64 (x7_1 + 1)), (y145), (.slice Ao60 y145.length co60), (by first | rfl | (simp; done) | (simp [*]; done)), H', ⟨by have := HK1.out; have := HJ15.out; omega⟩, ⟨by (with_reducible repeat (first | apply Kd.R_alloc | apply Kd.R_drewN | apply Kd.R_drew)); exact Kd.R_mono (Kd.R_far (p := ⟨gb135, 0, none⟩) (Kd.R_types HO147.out BK135.out (by decide)) (fun _ hk => hk.2) (.slice Ao60 y145.length co60)) (fun _ hk => trivial)⟩, ⟨by (with_reducible repeat (first | refine blk_drewN ?_ _ | refine blk_drew ?_ | refine blk_alloc ?_ _)); refine blk_far ?_ NB132_135.out _; exact bb_ BK132⟩, ⟨by (with_reducible repeat (first | refine blk_drewN ?_ _ | refine blk_drew ?_ | refine blk_alloc ?_ _)); refine blk_far ?_ NB133_135.out _; exact bb_ BK133⟩, ⟨by (with_reducible repeat (first | refine blk_drewN ?_ _ | refine blk_drew ?_ | refine blk_alloc ?_ _)); refine blk_put (cs := #[u136000]) ?_ 0 _ rfl; exact bb_ BK135⟩, ⟨hh_ HB⟩⟩
            ·rw [if_neg c53] at H
             exact absurd H (by simp)
           ·rw [if_neg c52] at H
            exact absurd H (by simp)
          ·rw [if_neg c51] at H
           exact absurd H (by simp)
         ·rw [if_neg c50] at H
          have c50b0 : decide (x9_15 < ((rd_T67 l0_0 x7_1).f2)) = false := decide_eq_false c50
          clear c50
          by_cases c62 : 0 ≤ x9_15
          ·rw [if_pos c62] at H
           have c62b0 := eq_true c62
           have c62b1 : decide (0 ≤ x9_15) = true := decide_eq_true c62
           clear c62
           by_cases c63 : x9_15 ≤ (((rd_T67 l0_0 x7_1).f1).size : Int)
           ·rw [if_pos c63] at H
            have c63b0 := eq_true c63
            have c63b1 : decide (x9_15 ≤ (((rd_T67 l0_0 x7_1).f1).size : Int)) = true := decide_eq_true c63
            clear c63
            by_cases c64 : x136000_1.length < 3518437208883
            ·rw [if_pos c64] at H
             have LMc64 := Aside0.mk c64
             clear c64
             obtain ⟨y148, hy148⟩ : ∃ y_ : List (S67), y_ = (x136000_1 ++ [(⟨((rd_T67 l0_0 x7_1).f0), ((rd_T67 l0_0 x7_1).f1).extract 0 (x9_15 : Int).toNat, x9_15⟩ : S67)]) := ⟨_, rfl⟩
             replace H : (spec_LoseDisk.l0 kj15 l1 (wrap64 (x7_1 + 1)) l0_0 y148) = some (r1, r2) := by first | (rw [hy148]; with_reducible exact H) | (have H2_ := (Option.bind_some _ _).symm.trans H; rw [hy148]; with_reducible exact H2_) | (have H2_ := (Option.bind_some _ _).symm.trans H; with_reducible exact H2_) | with_reducible exact H | (rw [hy148]; exact H) | exact H
             have Ny148 := Aside0.mk hy148
             clear hy148
             have H' := Aside0.mk H
             clear H
             have hnb65 := NB137_132.out; have hnc65 := NB132_137.out; have hnb66 := NB137_133.out; have hnc66 := NB133_137.out; have hnb67 := NB137_135.out; have hnc67 := NB135_137.out
             have hcz68_0 : wc.cell? ⟨gb137, 0, none⟩ = some (.string ((rd_T67 l0_0 x7_1).f0)) := (blk_cell BK137.out 0).trans rfl
             have hcz68_1 : wc.cell? ⟨gb137, 1, none⟩ = some (.string ((rd_T67 l0_0 x7_1).f1)) := (blk_cell BK137.out 1).trans rfl
             have hcz68_2 : wc.cell? ⟨gb137, 2, none⟩ = some (.int .i64 ((rd_T67 l0_0 x7_1).f2)) := (blk_cell BK137.out 2).trans rfl
             have hfz68_0 := blk_frozen BK137.out 0
             have hfz68_1 := blk_frozen BK137.out 1
             have hfz68_2 := blk_frozen BK137.out 2
             try go_wp2
             have n0_ := Aside0.mk (Kd.R_drew HO_136000.out)
             have n1_ := Aside0.mk (blk_drew BK132.out)
             have n2_ := Aside0.mk (blk_drew BK133.out)
             have n3_ := Aside0.mk (blk_drew BK135.out)
             have n4_ := Aside0.mk (blk_drew BK137.out)
             have n5_ := Aside0.mk (below_drew1 HB.out)
             clear HO_136000 BK132 BK133 BK135 BK137 HB
             have HO_136000 := n0_; have BK132 := n1_; have BK133 := n2_; have BK135 := n3_; have BK137 := n4_; have HB := n5_
             clear n0_ n1_ n2_ n3_ n4_ n5_
             refine start_ (n := 14) (S := fun w' => w'.cell? ⟨gb135, 0, none⟩ = some (u136000) ∧ w'.cell? ⟨gb137, 0, none⟩ = some (.string ((rd_T67 l0_0 x7_1).f0)) ∧ w'.cell? ⟨gb137, 1, none⟩ = some (.string ((rd_T67 l0_0 x7_1).f1)) ∧ w'.cell? ⟨gb137, 2, none⟩ = some (.int .i64 ((rd_T67 l0_0 x7_1).f2))) (ds := [13]) #[false, false, false, false, false, false, false, false, false, false, false, false, false, false] (by kernel_rfl) rfl rfl ⟨(blk_cell BK135.out 0).trans rfl, (blk_cell BK137.out 0).trans rfl, (blk_cell BK137.out 1).trans rfl, (blk_cell BK137.out 2).trans rfl⟩ (fun hHeld => ?_); refine with_tabW spec_LoseDisk.tab15 spec_LoseDisk.bits15 (fun HT_ HW_ => ?_)
             generalize wc.drew = w69 at HO_136000 BK132 BK133 BK135 BK137 HB hHeld ⊢
             refine pure_ (i := 0) (N := some 49) (v := ?_) (a' := ?_) #[true, false, false, false, false, false, false, false, false, false, false, false, false, false] rfl rfl (any_of HT_.out (by kernel_rfl)) (fun _ _ _ h => h) (Or.inl ⟨by rfl, ?_⟩) ?_ ?_
             rotate_left
             ·intro w'
              go_simp
              with_reducible rfl
             rotate_left
             ·simp only [Act.put, List.setIfInBounds_toArray, List.set_cons_zero, List.set_cons_succ, i64_w, i32_w]
              rfl
             refine pure_ (i := 2) (N := some 51) (v := ?_) (a' := ?_) #[true, false, true, false, false, false, false, false, false, false, false, false, false, false] rfl rfl (any_of HT_.out (by kernel_rfl)) (fun _ _ _ h => h) (Or.inl ⟨by rfl, ?_⟩) ?_ ?_
             rotate_left
             ·intro w'
              go_simp
              with_reducible rfl
             rotate_left
             ·simp only [Act.put, List.setIfInBounds_toArray, List.set_cons_zero, List.set_cons_succ, i64_w, i32_w]
              rfl
             refine pure_ (i := 4) (N := some 53) (v := ?_) (a' := ?_) #[true, false, true, false, true, false, false, false, false, false, false, false, false, false] rfl rfl (any_of HT_.out (by kernel_rfl)) (fun _ _ _ h => h) (Or.inl ⟨by rfl, ?_⟩) ?_ ?_
             rotate_left
             ·intro w'
              go_simp
              with_reducible rfl
             rotate_left
             ·simp only [Act.put, List.setIfInBounds_toArray, List.set_cons_zero, List.set_cons_succ, i64_w, i32_w]
              rfl
             refine pure_ (i := 6) (N := some 55) (v := ?_) (a' := ?_) #[true, false, true, false, true, false, true, false, false, false, false, false, false, false] rfl rfl (any_of HT_.out (by kernel_rfl)) (fun _ _ _ h => h) (Or.inl ⟨by rfl, ?_⟩) ?_ ?_
             rotate_left
             ·intro w'
              go_simp
              with_reducible rfl
             rotate_left
             ·simp only [Act.put, List.setIfInBounds_toArray, List.set_cons_zero, List.set_cons_succ, i64_w, i32_w]
              rfl
             refine pure_ (i := 8) (N := some 57) (v := ?_) (a' := ?_) #[true, false, true, false, true, false, true, false, true, false, false, false, false, false] rfl rfl (any_of HT_.out (by kernel_rfl)) (fun _ _ _ h => h) (Or.inl ⟨by rfl, ?_⟩) ?_ ?_
             rotate_left
             ·intro w'
              go_simp
              with_reducible rfl
             rotate_left
             ·simp only [Act.put, List.setIfInBounds_toArray, List.set_cons_zero, List.set_cons_succ, i64_w, i32_w]
              rfl
             refine take_ (i := 1) (N := some 50) (v := ?_) (a' := ?_) #[true, true, true, false, true, false, true, false, true, false, false, false, false, false] rfl rfl (take_ofW HT_.out HW_.out (by kernel_rfl)) (fun _ _ _ h => h) (Or.inl ⟨by rfl, ?_⟩) hHeld ?_ ?_
             rotate_left
             ·rintro w' ⟨s0, s1, s2, s3⟩
              go_simp
              with_reducible rfl
             rotate_left
             ·simp only [Act.put, List.setIfInBounds_toArray, List.set_cons_zero, List.set_cons_succ, i64_w, i32_w]
              rfl
             refine take_ (i := 3) (N := some 52) (v := ?_) (a' := ?_) #[true, true, true, true, true, false, true, false, true, false, false, false, false, false] rfl rfl (take_ofW HT_.out HW_.out (by kernel_rfl)) (fun _ _ _ h => h) (Or.inl ⟨by rfl, ?_⟩) hHeld ?_ ?_
             rotate_left
             ·rintro w' ⟨s0, s1, s2, s3⟩
              go_simp
              with_reducible rfl
             rotate_left
             ·simp only [Act.put, List.setIfInBounds_toArray, List.set_cons_zero, List.set_cons_succ, i64_w, i32_w]
              rfl
             refine take_ (i := 5) (N := some 54) (v := ?_) (a' := ?_) #[true, true, true, true, true, true, true, false, true, false, false, false, false, false] rfl rfl (take_ofW HT_.out HW_.out (by kernel_rfl)) (fun _ _ _ h => h) (Or.inl ⟨by rfl, ?_⟩) hHeld ?_ ?_
             rotate_left
             ·rintro w' ⟨s0, s1, s2, s3⟩
              go_simp
              with_reducible rfl
             rotate_left
             ·simp only [Act.put, List.setIfInBounds_toArray, List.set_cons_zero, List.set_cons_succ, i64_w, i32_w]
              rfl
             refine pure_ (i := 7) (N := some 56) (v := ?_) (a' := ?_) #[true, true, true, true, true, true, true, true, true, false, false, false, false, false] rfl rfl (any_of HT_.out (by kernel_rfl)) (fun _ _ _ h => h) (Or.inl ⟨by rfl, ?_⟩) ?_ ?_
             rotate_left
             ·intro w'
              go_simp
              with_reducible rfl
             rotate_left
             ·simp only [Act.put, List.setIfInBounds_toArray, List.set_cons_zero, List.set_cons_succ, i64_w, i32_w]
              rfl
             refine pure_ (i := 9) (N := some 58) (v := ?_) (a' := ?_) #[true, true, true, true, true, true, true, true, true, true, false, false, false, false] rfl rfl (any_of HT_.out (by kernel_rfl)) (fun _ _ _ h => h) (Or.inl ⟨by rfl, ?_⟩) ?_ ?_
             rotate_left
             ·intro w'
              go_simp
              with_reducible rfl
             rotate_left
             ·simp only [Act.put, List.setIfInBounds_toArray, List.set_cons_zero, List.set_cons_succ, i64_w, i32_w]
              rfl
             refine one_ (i := 10) (N := some 59) #[true, true, true, true, true, true, true, true, true, true, true, false, false, false] rfl rfl (one_of HT_.out (by kernel_rfl)) (by decide) (fun K hK => ?_)
             refine value_ (w1 := ?_) (v := ?_) (by rfl) rfl ?_ ?_
             rotate_left 2
             ·go_simp
              constructor
              ·rfl
              ·rfl
             refine hK.out _ _ ⟨(blk_cell (blk_alloc BK135.out _) 0).trans rfl, (blk_cell (blk_alloc BK137.out _) 0).trans rfl, (blk_cell (blk_alloc BK137.out _) 1).trans rfl, (blk_cell (blk_alloc BK137.out _) 2).trans rfl⟩ (fun hHeld => ?_)
             clear hK K
             refine norm_ (a' := ?_) ?_ ?_
             rotate_left
             ·show Act.put _ (some 59) _ = _
              simp only [Act.put, List.setIfInBounds_toArray, List.set_cons_zero, List.set_cons_succ, i64_w, i32_w]
              rfl
             refine one_ (i := 11) (N := some 60) #[true, true, true, true, true, true, true, true, true, true, true, true, false, false] rfl rfl (one_of HT_.out (by kernel_rfl)) (by decide) (fun K hK => ?_)
             refine Kd.R_append_step k67 (w0 := w) w.heap.size (by rfl) (.tmp 50) (.tmp 59) 27 67 (.agg #[(.string ⟨#[]⟩), (.string ⟨#[]⟩), (.int .i64 0)]) 40 rfl Try.underlying27 info67 rfl (by decide) (by omega) u136000 x136000_1 (⟨((rd_T67 l0_0 x7_1).f0), ((rd_T67 l0_0 x7_1).f1).extract 0 (x9_15 : Int).toNat, x9_15⟩ : S67) [.string ((rd_T67 l0_0 x7_1).f0), .string (((rd_T67 l0_0 x7_1).f1).extract 0 (x9_15 : Int).toNat), .int .i64 x9_15] (fun k_ => k_ ≠ gb137) (fun _ => False) rfl rfl ?aP (fun _ hk => hk.elim) ?aF ?aO ?aB ?aS ?aL ?_
             (case aP => exact k67_mkM _ _ _ (⟨((rd_T67 l0_0 x7_1).f0), ((rd_T67 l0_0 x7_1).f1).extract 0 (x9_15 : Int).toNat, x9_15⟩ : S67))
             (case aB => exact HB.out)
             (case aF => exact (fun k_ hk => Kd.freshB (g := gb137) (o := .cells #[.string ((rd_T67 l0_0 x7_1).f0), .string ((rd_T67 l0_0 x7_1).f1), .int .i64 ((rd_T67 l0_0 x7_1).f2)] 67 (0, 0)) BK137.out k_ hk))
             (case aO => exact HO_136000.out)
             (case aS => exact (below_size HB.out))
             (case aL => have := LMc64.out; omega)
             intro v149 w70 ho hb hg hat
             rw [← Ny148.out] at ho
             have n0_ := Aside0.mk (blk_grown (g := gb132) (o := .cells #[.slice (some ad136) l0_0.length c0_0] 29 (0, 0)) BK132.out hg (Kd.R_ne HO_136000.out BK132.out (by decide)))
             have n1_ := Aside0.mk (blk_grown (g := gb133) (o := .cells #[.slice none 0 0] 29 (0, 0)) BK133.out hg (Kd.R_ne HO_136000.out BK133.out (by decide)))
             have n2_ := Aside0.mk (blk_grown (g := gb135) (o := .cells #[u136000] 29 (0, 0)) BK135.out hg (Kd.R_ne HO_136000.out BK135.out (by decide)))
             have n3_ := Aside0.mk (blk_grown (g := gb137) (o := .cells #[.string ((rd_T67 l0_0 x7_1).f0), .string ((rd_T67 l0_0 x7_1).f1), .int .i64 ((rd_T67 l0_0 x7_1).f2)] 67 (0, 0)) BK137.out hg (Kd.R_away HO_136000.out (fun _ hk => hk)))
             have n4_ := Aside0.mk (hb)
             have n5_ := Aside0.mk (ho)
             clear BK132 BK133 BK135 BK137 HB HO_136000
             have BK132 := n0_; have BK133 := n1_; have BK135 := n2_; have BK137 := n3_; have HB := n4_; have HO150 := n5_
             clear n0_ n1_ n2_ n3_ n4_ n5_ ho hb hg hat
             obtain ⟨Ao71, co71, eo71⟩ := Kd.R_slice HO150.out
             (first | subst eo71 | (injection eo71 with f1_ f2_ f3_; have f4_ := f1_.symm; have f5_ := f3_.symm; clear f1_ f2_ f3_; subst f4_; subst f5_))
             refine hK.out _ _ ⟨(blk_cell BK135.out 0).trans rfl, (blk_cell BK137.out 0).trans rfl, (blk_cell BK137.out 1).trans rfl, (blk_cell BK137.out 2).trans rfl⟩ (fun hHeld => ?_)
             clear hK K
             refine norm_ (a' := ?_) ?_ ?_
             rotate_left
             ·show Act.put _ (some 60) _ = _
              simp only [Act.put, List.setIfInBounds_toArray, List.set_cons_zero, List.set_cons_succ, i64_w, i32_w]
              rfl
             refine pure_ (i := 12) (N := some 61) (v := ?_) (a' := ?_) #[true, true, true, true, true, true, true, true, true, true, true, true, true, false] rfl rfl (any_of HT_.out (by kernel_rfl)) (fun _ _ _ h => h) (Or.inl ⟨by rfl, ?_⟩) ?_ ?_
             rotate_left
             ·intro w'
              go_simp
              with_reducible rfl
             rotate_left
             ·simp only [Act.put, List.setIfInBounds_toArray, List.set_cons_zero, List.set_cons_succ, i64_w, i32_w]
              rfl
             refine last_ (i := 13) (N := none) #[true, true, true, true, true, true, true, true, true, true, true, true, true, true] rfl rfl (one_of HT_.out (by kernel_rfl)) (by decide) (fun K hK => ?_)
             have hs72 : w70.cell? ⟨gb135, 0, none⟩ = some (u136000) := (blk_cell BK135.out 0).trans rfl
             have hfs72 := blk_frozen BK135.out 0
             have hns72_0 := NB132_135.out; have hns72_1 := NB133_135.out; have hns72_3 := NB137_135.out; have hms72_0 := NB135_132.out; have hms72_1 := NB135_133.out; have hms72_3 := NB135_137.out
             refine skip_ (w1 := ?_) (by rfl) rfl ?_ ?_
             rotate_left
             ·go_simp
              rfl
             refine hK.out _ _ ?_
             clear hK K
             refine done_ (done_of HT_.out (by kernel_rfl)) ?_
             try go_wp2
             go_roundg kj15
             case measure => have := HK1.out; have := HJ15.out; omega
             case rel => exact ⟨(wrap64 (x7_1 + 1)), (y148), (.slice Ao71 y148.length co71), (by first | rfl | (simp; done) | (simp [*]; done)), H', ⟨by have := HK1.out; have := HJ15.out; omega⟩, ⟨by (with_reducible repeat (first | apply Kd.R_alloc | apply Kd.R_drewN | apply Kd.R_drew)); exact Kd.R_mono (Kd.R_far (p := ⟨gb135, 0, none⟩) (Kd.R_types HO150.out BK135.out (by decide)) (fun _ hk => hk.2) (.slice Ao71 y148.length co71)) (fun _ hk => trivial)⟩, ⟨by (with_reducible repeat (first | refine blk_drewN ?_ _ | refine blk_drew ?_ | refine blk_alloc ?_ _)); refine blk_far ?_ NB132_135.out _; exact bb_ BK132⟩, ⟨by (with_reducible repeat (first | refine blk_drewN ?_ _ | refine blk_drew ?_ | refine blk_alloc ?_ _)); refine blk_far ?_ NB133_135.out _; exact bb_ BK133⟩, ⟨by (with_reducible repeat (first | refine blk_drewN ?_ _ | refine blk_drew ?_ | refine blk_alloc ?_ _)); refine blk_put (cs := #[u136000]) ?_ 0 _ rfl; exact bb_ BK135⟩, ⟨hh_ HB⟩⟩
            ·rw [if_neg c64] at H
             exact absurd H (by simp)
           ·rw [if_neg c63] at H
            exact absurd H (by simp)
          ·rw [if_neg c62] at H
           exact absurd H (by simp)
     ·rw [if_neg c15] at H
      exact absurd H (by simp)
    ·rw [if_neg c14] at H
     have c14b0 : decide (x7_1 < (l0_0.length : Int)) = false := decide_eq_false c14
     clear c14
     simp only [Option.some.injEq, Prod.mk.injEq] at H
     obtain ⟨rfl, rfl⟩ := H
     have hnb73 := NB132_133.out; have hnc73 := NB133_132.out; have hnb74 := NB132_135.out; have hnc74 := NB135_132.out
     have hcz75_0 : wr.cell? ⟨gb132, 0, none⟩ = some (.slice A0_0 l0_0.length c0_0) := (blk_cell BK132.out 0).trans rfl
     have hfz75_0 := blk_frozen BK132.out 0
     have hnb76 := NB135_133.out; have hnc76 := NB133_135.out
     have hcz77_0 : wr.cell? ⟨gb135, 0, none⟩ = some (u136000) := (blk_cell BK135.out 0).trans rfl
     have hfz77_0 := blk_frozen BK135.out 0
     obtain ⟨Ao78, co78, eo78⟩ := Kd.R_slice HO_136000.out
     subst eo78
     have hcz79_0 : wr.cell? ⟨gb133, 0, none⟩ = some (.slice none 0 0) := (blk_cell BK133.out 0).trans rfl
     have hfz79_0 := blk_frozen BK133.out 0
     go_wp2
     refine bodyPost_ret (results_ct rfl _ _ gb133 29 #[.slice Ao78 x136000_1.length co78] (0, 0) _ rfl (by (with_reducible repeat (first | refine blk_drewN ?_ _ | refine blk_drew ?_ | refine blk_alloc ?_ _)); refine blk_put (cs := #[.slice none 0 0]) ?_ 0 _ rfl; exact bb_ BK133) Try.underlying29 rfl (by kernel_rfl)) rfl ?_
     exact ⟨_, by first | rfl | (simp [errW_none, errW_some] <;> rfl) | (simp [*, errW_none, errW_some] <;> rfl), by (with_reducible repeat (first | apply Kd.R_alloc | apply Kd.R_drewN | apply Kd.R_drew)); exact Kd.R_mono (Kd.R_far (p := ⟨gb133, 0, none⟩) (Kd.R_types HO_136000.out BK133.out (by decide)) (fun _ hk => hk.2) (.slice Ao78 x136000_1.length co78)) (fun _ hk => trivial), by repeat (first | (with_reducible first | exact HB.out | apply below_alloc | apply pw_below_drewN | apply below_drew1 | refine below_set ?_ GE132.out | refine below_set ?_ GE133.out | refine below_set ?_ GE135.out) | exact HB.out)⟩
 ·replace c4 := Bool.eq_false_iff.mpr c4
  subst c4
  have H1 : (some (([] : List (S67)), false)) = some (r1, r2) := by rw [if_neg (show ¬ (false = true) by decide)] at H; exact H
  clear H
  have H := H1
  clear H1
  simp only [Option.some.injEq, Prod.mk.injEq] at H
  obtain ⟨rfl, rfl⟩ := H
  go_enter Try.func33, Try.ntmps33
  go_wp2_with (first | ((with_reducible refine gate_dst (N := 2) rfl ?_); refine box_event ?hg (N := 2) ?hd (cs := #[.slice A0_0 l0_0.length c0_0]) (t := 29) ?hr ?_; (case hd => rfl); (case hg => rfl); (case hr => first | (go_simp; done) | (go_simp; rfl)); intro gb132 hg w80 hbox hb; have n0_ := Aside0.mk (below_step (hh_ HB) hb); have n1_ := Aside0.mk (hbox); have n2_ := Aside0.mk ((by rw [hg]; exact (below_size (hh_ HB)) : w.heap.size ≤ gb132)); have n3_ := n2_; clear HB; have HB := n0_; have BK132 := n1_; have GW132 := n2_; have GE132 := n3_; clear n0_ n1_ n2_ n3_; clear hb hbox hg) | ((with_reducible refine gate_dst (N := 4) rfl ?_); refine box_event ?hg (N := 4) ?hd (cs := #[.slice none 0 0]) (t := 29) ?hr ?_; (case hd => rfl); (case hg => rfl); (case hr => first | (go_simp; done) | (go_simp; rfl)); intro gb133 hg w81 hbox hb; have n0_ := Aside0.mk (blk_below (bb_ BK132) hb); have n1_ := Aside0.mk (below_step (hh_ HB) hb); have n2_ := Aside0.mk (hbox); have n3_ := Aside0.mk ((by rw [hg]; exact (below_size (hh_ HB)) : w.heap.size ≤ gb133)); have n4_ := n3_; have n5_ := Aside0.mk ((by rw [hg]; exact Nat.ne_of_lt (blk_lt (bb_ BK132)) : gb132 ≠ gb133)); have n6_ := Aside0.mk ((by rw [hg]; exact Nat.ne_of_gt (blk_lt (bb_ BK132)) : gb133 ≠ gb132)); clear BK132; clear HB; have BK132 := n0_; have HB := n1_; have BK133 := n2_; have GW133 := n3_; have GE133 := n4_; have NB132_133 := n5_; have NB133_132 := n6_; clear n0_ n1_ n2_ n3_ n4_ n5_ n6_; clear hb hbox hg; have hnb82 := NB132_133.out; have hnc82 := NB133_132.out; have hcz83_0 : w81.cell? ⟨gb132, 0, none⟩ = some (.slice A0_0 l0_0.length c0_0) := (blk_cell BK132.out 0).trans rfl; have hfz83_0 := blk_frozen BK132.out 0) | ((with_reducible refine gate_callee (f := 13) rfl ?_); refine goesL_ (some 11) rfl rfl Try.func13 (by kernel_rfl) rfl #[.agg #[.slice A0_0 l0_0.length c0_0]] rfl (by (try simp only [List.map_toArray, List.map_cons, List.map_nil]); first | done | rfl | (simp only [List.length_drop, List.length_take]; rfl)) ?_; (with_reducible refine (spec_DiskOk.calls _ _ l0_0 false _ ?side1 ?side2 A3.out).mono ?_); (case side1 => repeat (first | exact (Kd.C_below HR0_0.out HB.out) | (with_reducible refine Kd.C_alloc ?_ _) | (with_reducible refine Kd.C_drewN ?_ _) | (with_reducible refine Kd.C_drew ?_))); (case side2 => exact HC0_0.out); rintro e w84 ⟨rfl, hb⟩; refine ⟨_, rfl, ?_⟩; have n0_ := Aside0.mk (blk_below (bb_ BK132) hb); have n1_ := Aside0.mk (blk_below (bb_ BK133) hb); have n2_ := Aside0.mk (below_step (hh_ HB) hb); clear BK132; clear BK133; clear HB; have BK132 := n0_; have BK133 := n1_; have HB := n2_; clear n0_ n1_ n2_; (try clear hb); (try clear hb2); (try clear hk); (try clear hi); have hcz85_0 : w84.cell? ⟨gb133, 0, none⟩ = some (.slice none 0 0) := (blk_cell BK133.out 0).trans rfl; have hfz85_0 := blk_frozen BK133.out 0))
  refine bodyPost_ret (results_ct rfl _ _ gb133 29 #[.slice none 0 0] (0, 0) _ rfl (by (with_reducible repeat (first | refine blk_drewN ?_ _ | refine blk_drew ?_ | refine blk_alloc ?_ _)); refine blk_put (cs := #[.slice none 0 0]) ?_ 0 _ rfl; exact bb_ BK133) Try.underlying29 rfl (by kernel_rfl)) rfl ?_
  exact ⟨_, by first | rfl | (simp [errW_none, errW_some] <;> rfl) | (simp [*, errW_none, errW_some] <;> rfl), by first | exact Kd.R_nil _ _ _ _ _ | exact Kd.N_nil _ _ _ _ _ | exact Kd.V_nil _ _ _ _ _ | exact Kd.Q_nil _ _ _ _ _ | exact Kd.S_nil _ _ _ _ _, by repeat (first | (with_reducible first | exact HB.out | apply below_alloc | apply pw_below_drewN | apply below_drew1 | refine below_set ?_ GE132.out | refine below_set ?_ GE133.out) | exact HB.out)⟩

end Go.Proofs.Yteghgeanbglmoaa.PFnActs
