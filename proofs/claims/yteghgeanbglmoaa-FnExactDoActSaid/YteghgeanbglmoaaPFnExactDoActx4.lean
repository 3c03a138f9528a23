-- a text of this session's program wip/hyb.py (over the kit's print), out of the translation
import Derived.Test.YteghgeanbglmoaaPFnExactDoActx0
import Derived.Test.YteghgeanbglmoaaPFnExactDoActx1
import Derived.Test.YteghgeanbglmoaaPFnExactDoActx2
import Derived.Test.YteghgeanbglmoaaPFnExactDoActx3
namespace Go.Proofs.Yteghgeanbglmoaa.PFnExactDoAct
open Go.RowKit Go.Proofs.YteghgeanbglmoaaW.PrintWords Go.Proofs.YteghgeanbglmoaaW.PrintLast Go.Proofs.YteghgeanbglmoaaW.PrintMore
attribute [local go_sem] max2_int min2_int max_two min_two max_three min_three max_four min_four   -- for this text's walks alone
set_option linter.unusedVariables false
set_option linter.unusedSimpArgs false

/-! ### laws_FnExactDoAct: function 6 -/
mutual
def laws_FnExactDoAct.j0 : Nat → Bool → Bool → Bool → List (S96) → Int → ByteArray → ByteArray → ByteArray → List (S67) → List (S67) → List (S67) → Option (Bool)
  | 0, _, _, _, _, _, _, _, _, _, _, _ => none
  | k + 1, x7, x10, x51, x154000, x155000, x155001, x155002, x155003, x169000, x173000, x182000 => if x51 = true then (some false) else ((laws_toDisk.f k x154000).bind fun t183 => ((laws_eqDisk.f k x173000 t183).bind fun t186 => (if t186 = true then ((laws_markDisk.f k x173000 1).bind fun bt187 => (if bt187.1 < 0 then (laws_FnExactDoAct.j1 k x7 true x154000 x155000 x155001 x155002 x155003 x169000 x182000) else ((laws_eqDisk.f k x182000 x169000).bind fun t189 => (if t189 = true then (laws_FnExactDoAct.j1 k x7 (x10 != x7) x154000 x155000 x155001 x155002 x155003 x169000 x182000) else (laws_FnExactDoAct.j1 k x7 true x154000 x155000 x155001 x155002 x155003 x169000 x182000))))) else (some false))))
def laws_FnExactDoAct.j1 : Nat → Bool → Bool → List (S96) → Int → ByteArray → ByteArray → ByteArray → List (S67) → List (S67) → Option (Bool)
  | 0, _, _, _, _, _, _, _, _, _ => none
  | k + 1, x7, x72, x154000, x155000, x155001, x155002, x155003, x169000, x182000 => if x72 = true then (some false) else ((laws_markDisk.f k x182000 1).bind fun bt190 => ((laws_heldDisk.f k bt190.2 1).bind fun t192 => (if t192 < 0 then (some false) else (if t192 = bt190.1 then ((laws_toDisk.f k x154000).bind fun t193 => ((laws_toAct.f x155000 x155001 x155002 x155003).bind fun bt196 => ((impl_DoAct.f t193 bt196.1 bt196.2.1 bt196.2.2.1 bt196.2.2.2).bind fun bt200 => ((laws_eqDisk.f k bt200.1 x169000).bind fun t205 => (if t205 = true then (laws_FnExactDoAct.j2 k bt190.1 (bt200.2 != x7) bt190.2) else (laws_FnExactDoAct.j2 k bt190.1 true bt190.2)))))) else (some false)))))
def laws_FnExactDoAct.j2 : Nat → Int → Bool → List (S67) → Option (Bool)
  | 0, _, _, _ => none
  | k + 1, x12, x100, x182000 => if x100 = true then (some false) else ((laws_heldDisk.f k x182000 1).bind fun t206 => (if t206 < 0 then (some false) else (if t206 = x12 then (some true) else (some false))))
end
def laws_FnExactDoAct.f (k : Nat) (l0_0 : List (S96)) (a1_0 : Int) (a1_1 : ByteArray) (a1_2 : ByteArray) (a1_3 : ByteArray) : Option (Bool) := (laws_szDisk.f k l0_0 1048576).bind fun t155 => (if t155 < 0 then (some true) else ((laws_szAct.f a1_0 a1_1 a1_2 a1_3 t155).bind fun t156 => (if t156 < 0 then (some true) else ((laws_toDisk.f k l0_0).bind fun t157 => ((laws_toAct.f a1_0 a1_1 a1_2 a1_3).bind fun bt160 => ((spec_DoAct.f t157 bt160.1 bt160.2.1 bt160.2.2.1 bt160.2.2.2).bind fun bt164 => ((laws_toDisk.f k l0_0).bind fun t169 => ((laws_toAct.f a1_0 a1_1 a1_2 a1_3).bind fun bt173 => ((impl_DoAct.f t169 bt173.1 bt173.2.1 bt173.2.2.1 bt173.2.2.2).bind fun bt177 => ((laws_eqDisk.f k bt177.1 bt164.1).bind fun t182 => (if t182 = true then (laws_FnExactDoAct.j0 k bt164.2 bt177.2 (bt177.2 != bt164.2) l0_0 a1_0 a1_1 a1_2 a1_3 bt164.1 t169 bt177.1) else (laws_FnExactDoAct.j0 k bt164.2 bt177.2 true l0_0 a1_0 a1_1 a1_2 a1_3 bt164.1 t169 bt177.1))))))))))))
theorem laws_FnExactDoAct.mono_l : ∀ k, (∀ y0 y1 y2 y3 y4 y5 y6 y7 y8 y9 y10, LeO (laws_FnExactDoAct.j0 k y0 y1 y2 y3 y4 y5 y6 y7 y8 y9 y10) (laws_FnExactDoAct.j0 (k + 1) y0 y1 y2 y3 y4 y5 y6 y7 y8 y9 y10)) ∧ (∀ y0 y1 y2 y3 y4 y5 y6 y7 y8, LeO (laws_FnExactDoAct.j1 k y0 y1 y2 y3 y4 y5 y6 y7 y8) (laws_FnExactDoAct.j1 (k + 1) y0 y1 y2 y3 y4 y5 y6 y7 y8)) ∧ (∀ y0 y1 y2, LeO (laws_FnExactDoAct.j2 k y0 y1 y2) (laws_FnExactDoAct.j2 (k + 1) y0 y1 y2))
  | 0 => ⟨fun _ _ _ _ _ _ _ _ _ _ _ r h => by simp [laws_FnExactDoAct.j0] at h, fun _ _ _ _ _ _ _ _ _ r h => by simp [laws_FnExactDoAct.j1] at h, fun _ _ _ r h => by simp [laws_FnExactDoAct.j2] at h⟩
  | k + 1 => by
    obtain ⟨ih0, ih1, ih2⟩ := laws_FnExactDoAct.mono_l k
    refine ⟨?_, ?_, ?_⟩
    · intro y0 y1 y2 y3 y4 y5 y6 y7 y8 y9 y10
      unfold laws_FnExactDoAct.j0
      repeat' first
      | (with_reducible exact ih0 _ _ _ _ _ _ _ _ _ _ _)
      | (with_reducible exact ih1 _ _ _ _ _ _ _ _ _)
      | (with_reducible exact ih2 _ _ _)
      | (with_reducible exact laws_eqDisk.mono _ _ _)
      | (with_reducible exact laws_heldDisk.mono _ _ _)
      | (with_reducible exact laws_markDisk.mono _ _ _)
      | (with_reducible exact laws_szDisk.mono _ _ _)
      | (with_reducible exact laws_toDisk.mono _ _)
      | (with_reducible exact LeO.refl _)
      | (with_reducible exact LeO.none _)
      | (with_reducible refine LeO.ite ?_ ?_)
      | (with_reducible refine LeO.bind ?_ (fun _ => ?_))
      | exact ih0 _ _ _ _ _ _ _ _ _ _ _
      | exact ih1 _ _ _ _ _ _ _ _ _
      | exact ih2 _ _ _
      | exact laws_eqDisk.mono _ _ _
      | exact laws_heldDisk.mono _ _ _
      | exact laws_markDisk.mono _ _ _
      | exact laws_szDisk.mono _ _ _
      | exact laws_toDisk.mono _ _
      | exact LeO.none _
      | refine LeO.ite ?_ ?_
      | refine LeO.bind ?_ (fun _ => ?_)
    · intro y0 y1 y2 y3 y4 y5 y6 y7 y8
      unfold laws_FnExactDoAct.j1
      repeat' first
      | (with_reducible exact ih0 _ _ _ _ _ _ _ _ _ _ _)
      | (with_reducible exact ih1 _ _ _ _ _ _ _ _ _)
      | (with_reducible exact ih2 _ _ _)
      | (with_reducible exact laws_eqDisk.mono _ _ _)
      | (with_reducible exact laws_heldDisk.mono _ _ _)
      | (with_reducible exact laws_markDisk.mono _ _ _)
      | (with_reducible exact laws_szDisk.mono _ _ _)
      | (with_reducible exact laws_toDisk.mono _ _)
      | (with_reducible exact LeO.refl _)
      | (with_reducible exact LeO.none _)
      | (with_reducible refine LeO.ite ?_ ?_)
      | (with_reducible refine LeO.bind ?_ (fun _ => ?_))
      | exact ih0 _ _ _ _ _ _ _ _ _ _ _
      | exact ih1 _ _ _ _ _ _ _ _ _
      | exact ih2 _ _ _
      | exact laws_eqDisk.mono _ _ _
      | exact laws_heldDisk.mono _ _ _
      | exact laws_markDisk.mono _ _ _
      | exact laws_szDisk.mono _ _ _
      | exact laws_toDisk.mono _ _
      | exact LeO.none _
      | refine LeO.ite ?_ ?_
      | refine LeO.bind ?_ (fun _ => ?_)
    · intro y0 y1 y2
      unfold laws_FnExactDoAct.j2
      repeat' first
      | (with_reducible exact ih0 _ _ _ _ _ _ _ _ _ _ _)
      | (with_reducible exact ih1 _ _ _ _ _ _ _ _ _)
      | (with_reducible exact ih2 _ _ _)
      | (with_reducible exact laws_eqDisk.mono _ _ _)
      | (with_reducible exact laws_heldDisk.mono _ _ _)
      | (with_reducible exact laws_markDisk.mono _ _ _)
      | (with_reducible exact laws_szDisk.mono _ _ _)
      | (with_reducible exact laws_toDisk.mono _ _)
      | (with_reducible exact LeO.refl _)
      | (with_reducible exact LeO.none _)
      | (with_reducible refine LeO.ite ?_ ?_)
      | (with_reducible refine LeO.bind ?_ (fun _ => ?_))
      | exact ih0 _ _ _ _ _ _ _ _ _ _ _
      | exact ih1 _ _ _ _ _ _ _ _ _
      | exact ih2 _ _ _
      | exact laws_eqDisk.mono _ _ _
      | exact laws_heldDisk.mono _ _ _
      | exact laws_markDisk.mono _ _ _
      | exact laws_szDisk.mono _ _ _
      | exact laws_toDisk.mono _ _
      | exact LeO.none _
      | refine LeO.ite ?_ ?_
      | refine LeO.bind ?_ (fun _ => ?_)
theorem laws_FnExactDoAct.mono : ∀ a0 a1 a2 a3 a4 k, LeO (laws_FnExactDoAct.f k a0 a1 a2 a3 a4) (laws_FnExactDoAct.f (k + 1) a0 a1 a2 a3 a4) := by
  intro a0 a1 a2 a3 a4 k
  obtain ⟨ih0, ih1, ih2⟩ := laws_FnExactDoAct.mono_l k
  unfold laws_FnExactDoAct.f
  repeat' first
      | (with_reducible exact ih0 _ _ _ _ _ _ _ _ _ _ _)
      | (with_reducible exact ih1 _ _ _ _ _ _ _ _ _)
      | (with_reducible exact ih2 _ _ _)
      | (with_reducible exact laws_eqDisk.mono _ _ _)
      | (with_reducible exact laws_heldDisk.mono _ _ _)
      | (with_reducible exact laws_markDisk.mono _ _ _)
      | (with_reducible exact laws_szDisk.mono _ _ _)
      | (with_reducible exact laws_toDisk.mono _ _)
      | (with_reducible exact LeO.refl _)
      | (with_reducible exact LeO.none _)
      | (with_reducible refine LeO.ite ?_ ?_)
      | (with_reducible refine LeO.bind ?_ (fun _ => ?_))
      | exact ih0 _ _ _ _ _ _ _ _ _ _ _
      | exact ih1 _ _ _ _ _ _ _ _ _
      | exact ih2 _ _ _
      | exact laws_eqDisk.mono _ _ _
      | exact laws_heldDisk.mono _ _ _
      | exact laws_markDisk.mono _ _ _
      | exact laws_szDisk.mono _ _ _
      | exact laws_toDisk.mono _ _
      | exact LeO.none _
      | refine LeO.ite ?_ ?_
      | refine LeO.bind ?_ (fun _ => ?_)
def laws_FnExactDoAct.T8 : Bool × List (List Nat × List Nat) := (true, [([], []), ([0], [0]), ([], []), ([2, 1], [2]), ([1, 3, 3], [1, 3]), ([4], [4]), ([5], [5]), ([5], [5]), ([], []), ([8, 6, 4, 0, 1, 2, 3, 4, 5, 6, 8], [6, 8]), ([7, 9, 0, 1, 2, 3, 4, 5, 6, 7, 8, 9], [7])])
def laws_FnExactDoAct.B8 : List Nat := [0, 1, 0, 7, 15, 31, 63, 63, 0, 383, 1023]
theorem laws_FnExactDoAct.tab8 : rtab .any (opsOf Try.f6 8) = laws_FnExactDoAct.T8 := by kernel_rfl
theorem laws_FnExactDoAct.bits8 : waitsOk laws_FnExactDoAct.T8.2 laws_FnExactDoAct.B8 = true := by kernel_rfl
def laws_FnExactDoAct.T10 : Bool × List (List Nat × List Nat) := (true, [([], []), ([], []), ([1], [1]), ([0, 2, 2], [0, 2]), ([3], [3]), ([4], [4]), ([4], [4]), ([], []), ([7, 5, 3, 0, 1, 2, 3, 4, 5, 7], [5, 7]), ([6, 8, 0, 1, 2, 3, 4, 5, 6, 7, 8], [6])])
def laws_FnExactDoAct.B10 : List Nat := [0, 0, 2, 7, 15, 31, 31, 0, 191, 511]
theorem laws_FnExactDoAct.tab10 : rtab .any (opsOf Try.f6 10) = laws_FnExactDoAct.T10 := by kernel_rfl
theorem laws_FnExactDoAct.bits10 : waitsOk laws_FnExactDoAct.T10.2 laws_FnExactDoAct.B10 = true := by kernel_rfl
def laws_FnExactDoAct.T27 : Bool × List (List Nat × List Nat) := (true, [([], []), ([0], [0]), ([], []), ([2, 1], [2]), ([1, 3, 3], [1, 3]), ([4], [4]), ([5], [5]), ([5], [5]), ([], []), ([8, 6, 4, 0, 1, 2, 3, 4, 5, 6, 8], [6, 8]), ([7, 9, 0, 1, 2, 3, 4, 5, 6, 7, 8, 9], [7])])
def laws_FnExactDoAct.B27 : List Nat := [0, 1, 0, 7, 15, 31, 63, 63, 0, 383, 1023]
theorem laws_FnExactDoAct.tab27 : rtab .any (opsOf Try.f6 27) = laws_FnExactDoAct.T27 := by kernel_rfl
theorem laws_FnExactDoAct.bits27 : waitsOk laws_FnExactDoAct.T27.2 laws_FnExactDoAct.B27 = true := by kernel_rfl
set_option maxHeartbeats 8000000 in
set_option maxRecDepth 100000 in
theorem laws_FnExactDoAct.calls (k : Nat) (A0_0 : Option Addr) (c0_0 : Nat) (l0_0 : List (S96)) (a1_0 : Int) (a1_1 : ByteArray) (a1_2 : ByteArray) (a1_3 : ByteArray) (r : Bool) (w : World) (hr0_0 : Kd.C k96 w A0_0 l0_0.length l0_0) (hc0_0 : l0_0.length ≤ c0_0) (h : laws_FnExactDoAct.f k l0_0 a1_0 a1_1 a1_2 a1_3 = some r) (hr_ : r = true) :
  Calls Try.prog 6 #[.agg #[.slice A0_0 l0_0.length c0_0], .agg #[.int .i64 a1_0, .string a1_1, .string a1_2, .string a1_3]] w fun e w' => e = .returned (.bool r) ∧ Below w.heap.size w w' := by
 replace hr_ := Aside0.mk hr_
 have hu24 := Try.underlying24
 have hu37 := Try.underlying37
 have hu29 := Try.underlying29
 have HR0_0 := Aside0.mk hr0_0
 have HC0_0 := Aside0.mk hc0_0
 clear hr0_0 hc0_0
 have HB := Aside0.mk (Below.refl w.heap.size w)
 have H : ((laws_szDisk.f k l0_0 1048576).bind fun t155 => (if t155 < 0 then (some true) else ((laws_szAct.f a1_0 a1_1 a1_2 a1_3 t155).bind fun t156 => (if t156 < 0 then (some true) else ((laws_toDisk.f k l0_0).bind fun t157 => ((laws_toAct.f a1_0 a1_1 a1_2 a1_3).bind fun bt160 => ((spec_DoAct.f t157 bt160.1 bt160.2.1 bt160.2.2.1 bt160.2.2.2).bind fun bt164 => ((laws_toDisk.f k l0_0).bind fun t169 => ((laws_toAct.f a1_0 a1_1 a1_2 a1_3).bind fun bt173 => ((impl_DoAct.f t169 bt173.1 bt173.2.1 bt173.2.2.1 bt173.2.2.2).bind fun bt177 => ((laws_eqDisk.f k bt177.1 bt164.1).bind fun t182 => (if t182 = true then (laws_FnExactDoAct.j0 k bt164.2 bt177.2 (bt177.2 != bt164.2) l0_0 a1_0 a1_1 a1_2 a1_3 bt164.1 t169 bt177.1) else (laws_FnExactDoAct.j0 k bt164.2 bt177.2 true l0_0 a1_0 a1_1 a1_2 a1_3 bt164.1 t169 bt177.1))))))))))))) = some r := h
 clear h
 replace H := Option.bind_eq_some_iff.mp H
 obtain ⟨t155, A30, H⟩ := H
 replace H : (if t155 < 0 then (some true) else ((laws_szAct.f a1_0 a1_1 a1_2 a1_3 t155).bind fun t156 => (if t156 < 0 then (some true) else ((laws_toDisk.f k l0_0).bind fun t157 => ((laws_toAct.f a1_0 a1_1 a1_2 a1_3).bind fun bt160 => ((spec_DoAct.f t157 bt160.1 bt160.2.1 bt160.2.2.1 bt160.2.2.2).bind fun bt164 => ((laws_toDisk.f k l0_0).bind fun t169 => ((laws_toAct.f a1_0 a1_1 a1_2 a1_3).bind fun bt173 => ((impl_DoAct.f t169 bt173.1 bt173.2.1 bt173.2.2.1 bt173.2.2.2).bind fun bt177 => ((laws_eqDisk.f k bt177.1 bt164.1).bind fun t182 => (if t182 = true then (laws_FnExactDoAct.j0 k bt164.2 bt177.2 (bt177.2 != bt164.2) l0_0 a1_0 a1_1 a1_2 a1_3 bt164.1 t169 bt177.1) else (laws_FnExactDoAct.j0 k bt164.2 bt177.2 true l0_0 a1_0 a1_1 a1_2 a1_3 bt164.1 t169 bt177.1)))))))))))) = some r := H
 have A3 := Aside0.mk A30
 clear A30
 by_cases c4 : t155 < 0
 ·rw [if_pos c4] at H
  have c4b0 : decide (t155 < 0) = true := decide_eq_true c4
  clear c4
  obtain rfl := Option.some.inj H
  go_enter Try.func6, Try.ntmps6
  go_wp2_with (first | ((with_reducible refine gate_dst (N := 2) rfl ?_); refine box_event ?hg (N := 2) ?hd (cs := #[.slice A0_0 l0_0.length c0_0]) (t := 24) ?hr ?_; (case hd => rfl); (case hg => rfl); (case hr => first | (go_simp; done) | (go_simp; rfl)); intro gb153 hg w5 hbox hb; have n0_ := Aside0.mk (below_step (by repeat (first | (with_reducible first | exact HB.out | apply below_alloc | apply pw_below_drewN | apply below_drew1) | exact HB.out)) hb); have n1_ := Aside0.mk (hbox); have n2_ := Aside0.mk ((by rw [hg]; exact (below_size (by repeat (first | (with_reducible first | exact HB.out | apply below_alloc | apply pw_below_drewN | apply below_drew1) | exact HB.out))) : w.heap.size ≤ gb153)); have n3_ := Aside0.mk ((by rw [hg]; exact (below_size (by repeat (first | (with_reducible first | exact HB.out | apply below_alloc | apply pw_below_drewN | apply below_drew1) | exact HB.out))) : w.heap.size ≤ gb153)); clear HB; have HB := n0_; have BK153 := n1_; have GW153 := n2_; have GE153 := n3_; clear n0_ n1_ n2_ n3_; clear hb hbox hg) | ((with_reducible refine gate_dst (N := 3) rfl ?_); refine box_event ?hg (N := 3) ?hd (cs := #[.int .i64 a1_0, .string a1_1, .string a1_2, .string a1_3]) (t := 37) ?hr ?_; (case hd => rfl); (case hg => rfl); (case hr => first | (go_simp; done) | (go_simp; rfl)); intro gb154 hg w6 hbox hb; have n0_ := Aside0.mk (blk_below (g := gb153) (o := .cells #[.slice A0_0 l0_0.length c0_0] 24 (0, 0)) (by (with_reducible repeat (first | refine blk_drewN ?_ _ | refine blk_drew ?_ | refine blk_alloc ?_ _)); exact BK153.out) hb); have n1_ := Aside0.mk (below_step (by repeat (first | (with_reducible first | exact HB.out | apply below_alloc | apply pw_below_drewN | apply below_drew1 | refine below_set ?_ GE153.out) | exact HB.out)) hb); have n2_ := Aside0.mk (hbox); have n3_ := Aside0.mk ((by rw [hg]; exact (below_size (by repeat (first | (with_reducible first | exact HB.out | apply below_alloc | apply pw_below_drewN | apply below_drew1 | refine below_set ?_ GE153.out) | exact HB.out))) : w.heap.size ≤ gb154)); have n4_ := Aside0.mk ((by rw [hg]; exact (below_size (by repeat (first | (with_reducible first | exact HB.out | apply below_alloc | apply pw_below_drewN | apply below_drew1 | refine below_set ?_ GE153.out) | exact HB.out))) : w.heap.size ≤ gb154)); have n5_ := Aside0.mk ((by rw [hg]; exact Nat.ne_of_lt (blk_lt (g := gb153) (o := .cells #[.slice A0_0 l0_0.length c0_0] 24 (0, 0)) (by (with_reducible repeat (first | refine blk_drewN ?_ _ | refine blk_drew ?_ | refine blk_alloc ?_ _)); exact BK153.out)) : gb153 ≠ gb154)); have n6_ := Aside0.mk ((by rw [hg]; exact Nat.ne_of_gt (blk_lt (g := gb153) (o := .cells #[.slice A0_0 l0_0.length c0_0] 24 (0, 0)) (by (with_reducible repeat (first | refine blk_drewN ?_ _ | refine blk_drew ?_ | refine blk_alloc ?_ _)); exact BK153.out)) : gb154 ≠ gb153)); clear BK153; clear HB; have BK153 := n0_; have HB := n1_; have BK154 := n2_; have GW154 := n3_; have GE154 := n4_; have NB153_154 := n5_; have NB154_153 := n6_; clear n0_ n1_ n2_ n3_ n4_ n5_ n6_; clear hb hbox hg; have hnb7 := NB153_154.out; have hnc7 := NB154_153.out; have hcz8_0 : w6.cell? ⟨gb153, 0, none⟩ = some (.slice A0_0 l0_0.length c0_0) := (blk_cell BK153.out 0).trans rfl; have hfz8_0 := blk_frozen BK153.out 0) | ((with_reducible refine gate_callee (f := 12) rfl ?_); refine goesL_ (some 18) rfl rfl Try.func12 (by kernel_rfl) rfl #[.agg #[.slice A0_0 l0_0.length c0_0], .int .i64 1048576] rfl (by (try simp only [List.map_toArray, List.map_cons, List.map_nil]); first | done | rfl | (simp only [List.length_drop, List.length_take]; rfl)) ?_; (with_reducible refine (laws_szDisk.calls k _ _ l0_0 1048576 t155 _ ?side1 ?side2 A3.out).mono ?_); (case side1 => repeat (first | exact (Kd.C_below HR0_0.out HB.out) | (with_reducible refine Kd.C_alloc ?_ _) | (with_reducible refine Kd.C_drewN ?_ _) | (with_reducible refine Kd.C_drew ?_))); (case side2 => exact HC0_0.out); rintro e w9 ⟨rfl, hb⟩; refine ⟨_, rfl, ?_⟩; have n0_ := Aside0.mk (blk_below (g := gb153) (o := .cells #[.slice A0_0 l0_0.length c0_0] 24 (0, 0)) (by (with_reducible repeat (first | refine blk_drewN ?_ _ | refine blk_drew ?_ | refine blk_alloc ?_ _)); exact BK153.out) hb); have n1_ := Aside0.mk (blk_below (g := gb154) (o := .cells #[.int .i64 a1_0, .string a1_1, .string a1_2, .string a1_3] 37 (0, 0)) (by (with_reducible repeat (first | refine blk_drewN ?_ _ | refine blk_drew ?_ | refine blk_alloc ?_ _)); exact BK154.out) hb); have n2_ := Aside0.mk (below_step (by repeat (first | (with_reducible first | exact HB.out | apply below_alloc | apply pw_below_drewN | apply below_drew1 | refine below_set ?_ GE153.out | refine below_set ?_ GE154.out) | exact HB.out)) hb); clear BK153; clear BK154; clear HB; have BK153 := n0_; have BK154 := n1_; have HB := n2_; clear n0_ n1_ n2_; (try clear hb); (try clear hb2); (try clear hk); (try clear hi)))
  go_ret
  exact ⟨by first | rfl | (simp [errW_none, errW_some] <;> rfl) | (simp [*, errW_none, errW_some] <;> rfl), by repeat (first | (with_reducible first | exact HB.out | apply below_alloc | apply pw_below_drewN | apply below_drew1 | refine below_set ?_ GE153.out | refine below_set ?_ GE154.out) | exact HB.out)⟩
 ·rw [if_neg c4] at H
  have c4b0 : decide (t155 < 0) = false := decide_eq_false c4
  clear c4
  replace H := Option.bind_eq_some_iff.mp H
  obtain ⟨t156, A100, H⟩ := H
  replace H : (if t156 < 0 then (some true) else ((laws_toDisk.f k l0_0).bind fun t157 => ((laws_toAct.f a1_0 a1_1 a1_2 a1_3).bind fun bt160 => ((spec_DoAct.f t157 bt160.1 bt160.2.1 bt160.2.2.1 bt160.2.2.2).bind fun bt164 => ((laws_toDisk.f k l0_0).bind fun t169 => ((laws_toAct.f a1_0 a1_1 a1_2 a1_3).bind fun bt173 => ((impl_DoAct.f t169 bt173.1 bt173.2.1 bt173.2.2.1 bt173.2.2.2).bind fun bt177 => ((laws_eqDisk.f k bt177.1 bt164.1).bind fun t182 => (if t182 = true then (laws_FnExactDoAct.j0 k bt164.2 bt177.2 (bt177.2 != bt164.2) l0_0 a1_0 a1_1 a1_2 a1_3 bt164.1 t169 bt177.1) else (laws_FnExactDoAct.j0 k bt164.2 bt177.2 true l0_0 a1_0 a1_1 a1_2 a1_3 bt164.1 t169 bt177.1)))))))))) = some r := H
  have A10 := Aside0.mk A100
  clear A100
  by_cases c11 : t156 < 0
  ·rw [if_pos c11] at H
   have c11b0 : decide (t156 < 0) = true := decide_eq_true c11
   clear c11
   obtain rfl := Option.some.inj H
   go_enter Try.func6, Try.ntmps6
   go_wp2_with (first | ((with_reducible refine gate_dst (N := 2) rfl ?_); refine box_event ?hg (N := 2) ?hd (cs := #[.slice A0_0 l0_0.length c0_0]) (t := 24) ?hr ?_; (case hd => rfl); (case hg => rfl); (case hr => first | (go_simp; done) | (go_simp; rfl)); intro gb153 hg w12 hbox hb; have n0_ := Aside0.mk (below_step (by repeat (first | (with_reducible first | exact HB.out | apply below_alloc | apply pw_below_drewN | apply below_drew1) | exact HB.out)) hb); have n1_ := Aside0.mk (hbox); have n2_ := Aside0.mk ((by rw [hg]; exact (below_size (by repeat (first | (with_reducible first | exact HB.out | apply below_alloc | apply pw_below_drewN | apply below_drew1) | exact HB.out))) : w.heap.size ≤ gb153)); have n3_ := Aside0.mk ((by rw [hg]; exact (below_size (by repeat (first | (with_reducible first | exact HB.out | apply below_alloc | apply pw_below_drewN | apply below_drew1) | exact HB.out))) : w.heap.size ≤ gb153)); clear HB; have HB := n0_; have BK153 := n1_; have GW153 := n2_; have GE153 := n3_; clear n0_ n1_ n2_ n3_; clear hb hbox hg) | ((with_reducible refine gate_dst (N := 3) rfl ?_); refine box_event ?hg (N := 3) ?hd (cs := #[.int .i64 a1_0, .string a1_1, .string a1_2, .string a1_3]) (t := 37) ?hr ?_; (case hd => rfl); (case hg => rfl); (case hr => first | (go_simp; done) | (go_simp; rfl)); intro gb154 hg w13 hbox hb; have n0_ := Aside0.mk (blk_below (g := gb153) (o := .cells #[.slice A0_0 l0_0.length c0_0] 24 (0, 0)) (by (with_reducible repeat (first | refine blk_drewN ?_ _ | refine blk_drew ?_ | refine blk_alloc ?_ _)); exact BK153.out) hb); have n1_ := Aside0.mk (below_step (by repeat (first | (with_reducible first | exact HB.out | apply below_alloc | apply pw_below_drewN | apply below_drew1 | refine below_set ?_ GE153.out) | exact HB.out)) hb); have n2_ := Aside0.mk (hbox); have n3_ := Aside0.mk ((by rw [hg]; exact (below_size (by repeat (first | (with_reducible first | exact HB.out | apply below_alloc | apply pw_below_drewN | apply below_drew1 | refine below_set ?_ GE153.out) | exact HB.out))) : w.heap.size ≤ gb154)); have n4_ := Aside0.mk ((by rw [hg]; exact (below_size (by repeat (first | (with_reducible first | exact HB.out | apply below_alloc | apply pw_below_drewN | apply below_drew1 | refine below_set ?_ GE153.out) | exact HB.out))) : w.heap.size ≤ gb154)); have n5_ := Aside0.mk ((by rw [hg]; exact Nat.ne_of_lt (blk_lt (g := gb153) (o := .cells #[.slice A0_0 l0_0.length c0_0] 24 (0, 0)) (by (with_reducible repeat (first | refine blk_drewN ?_ _ | refine blk_drew ?_ | refine blk_alloc ?_ _)); exact BK153.out)) : gb153 ≠ gb154)); have n6_ := Aside0.mk ((by rw [hg]; exact Nat.ne_of_gt (blk_lt (g := gb153) (o := .cells #[.slice A0_0 l0_0.length c0_0] 24 (0, 0)) (by (with_reducible repeat (first | refine blk_drewN ?_ _ | refine blk_drew ?_ | refine blk_alloc ?_ _)); exact BK153.out)) : gb154 ≠ gb153)); clear BK153; clear HB; have BK153 := n0_; have HB := n1_; have BK154 := n2_; have GW154 := n3_; have GE154 := n4_; have NB153_154 := n5_; have NB154_153 := n6_; clear n0_ n1_ n2_ n3_ n4_ n5_ n6_; clear hb hbox hg; have hnb14 := NB153_154.out; have hnc14 := NB154_153.out; have hcz15_0 : w13.cell? ⟨gb153, 0, none⟩ = some (.slice A0_0 l0_0.length c0_0) := (blk_cell BK153.out 0).trans rfl; have hfz15_0 := blk_frozen BK153.out 0) | ((with_reducible refine gate_callee (f := 12) rfl ?_); refine goesL_ (some 18) rfl rfl Try.func12 (by kernel_rfl) rfl #[.agg #[.slice A0_0 l0_0.length c0_0], .int .i64 1048576] rfl (by (try simp only [List.map_toArray, List.map_cons, List.map_nil]); first | done | rfl | (simp only [List.length_drop, List.length_take]; rfl)) ?_; (with_reducible refine (laws_szDisk.calls k _ _ l0_0 1048576 t155 _ ?side1 ?side2 A3.out).mono ?_); (case side1 => repeat (first | exact (Kd.C_below HR0_0.out HB.out) | (with_reducible refine Kd.C_alloc ?_ _) | (with_reducible refine Kd.C_drewN ?_ _) | (with_reducible refine Kd.C_drew ?_))); (case side2 => exact HC0_0.out); rintro e w16 ⟨rfl, hb⟩; refine ⟨_, rfl, ?_⟩; have n0_ := Aside0.mk (blk_below (g := gb153) (o := .cells #[.slice A0_0 l0_0.length c0_0] 24 (0, 0)) (by (with_reducible repeat (first | refine blk_drewN ?_ _ | refine blk_drew ?_ | refine blk_alloc ?_ _)); exact BK153.out) hb); have n1_ := Aside0.mk (blk_below (g := gb154) (o := .cells #[.int .i64 a1_0, .string a1_1, .string a1_2, .string a1_3] 37 (0, 0)) (by (with_reducible repeat (first | refine blk_drewN ?_ _ | refine blk_drew ?_ | refine blk_alloc ?_ _)); exact BK154.out) hb); have n2_ := Aside0.mk (below_step (by repeat (first | (with_reducible first | exact HB.out | apply below_alloc | apply pw_below_drewN | apply below_drew1 | refine below_set ?_ GE153.out | refine below_set ?_ GE154.out) | exact HB.out)) hb); clear BK153; clear BK154; clear HB; have BK153 := n0_; have BK154 := n1_; have HB := n2_; clear n0_ n1_ n2_; (try clear hb); (try clear hb2); (try clear hk); (try clear hi); have hcz17_0 : w16.cell? ⟨gb154, 0, none⟩ = some (.int .i64 a1_0) := (blk_cell BK154.out 0).trans rfl; have hcz17_1 : w16.cell? ⟨gb154, 1, none⟩ = some (.string a1_1) := (blk_cell BK154.out 1).trans rfl; have hcz17_2 : w16.cell? ⟨gb154, 2, none⟩ = some (.string a1_2) := (blk_cell BK154.out 2).trans rfl; have hcz17_3 : w16.cell? ⟨gb154, 3, none⟩ = some (.string a1_3) := (blk_cell BK154.out 3).trans rfl; have hfz17_0 := blk_frozen BK154.out 0; have hfz17_1 := blk_frozen BK154.out 1; have hfz17_2 := blk_frozen BK154.out 2; have hfz17_3 := blk_frozen BK154.out 3) | ((with_reducible refine gate_callee (f := 21) rfl ?_); refine goesL_ (some 23) rfl rfl Try.func21 (by kernel_rfl) rfl #[.agg #[.int .i64 a1_0, .string a1_1, .string a1_2, .string a1_3], .int .i64 t155] rfl (by (try simp only [List.map_toArray, List.map_cons, List.map_nil]); first | done | rfl | (simp only [List.length_drop, List.length_take]; rfl)) ?_; (with_reducible refine (laws_szAct.calls a1_0 a1_1 a1_2 a1_3 t155 t156 _ A10.out).mono ?_); rintro e w18 ⟨rfl, hb⟩; refine ⟨_, rfl, ?_⟩; have n0_ := Aside0.mk (blk_below (g := gb153) (o := .cells #[.slice A0_0 l0_0.length c0_0] 24 (0, 0)) (by (with_reducible repeat (first | refine blk_drewN ?_ _ | refine blk_drew ?_ | refine blk_alloc ?_ _)); exact BK153.out) hb); have n1_ := Aside0.mk (blk_below (g := gb154) (o := .cells #[.int .i64 a1_0, .string a1_1, .string a1_2, .string a1_3] 37 (0, 0)) (by (with_reducible repeat (first | refine blk_drewN ?_ _ | refine blk_drew ?_ | refine blk_alloc ?_ _)); exact BK154.out) hb); have n2_ := Aside0.mk (below_step (by repeat (first | (with_reducible first | exact HB.out | apply below_alloc | apply pw_below_drewN | apply below_drew1 | refine below_set ?_ GE153.out | refine below_set ?_ GE154.out) | exact HB.out)) hb); clear BK153; clear BK154; clear HB; have BK153 := n0_; have BK154 := n1_; have HB := n2_; clear n0_ n1_ n2_; (try clear hb); (try clear hb2); (try clear hk); (try clear hi)))
   go_ret
   exact ⟨by first | rfl | (simp [errW_none, errW_some] <;> rfl) | (simp [*, errW_none, errW_some] <;> rfl), by repeat (first | (with_reducible first | exact HB.out | apply below_alloc | apply pw_below_drewN | apply below_drew1 | refine below_set ?_ GE153.out | refine below_set ?_ GE154.out) | exact HB.out)⟩
  ·rw [if_neg c11] at H
   have c11b0 : decide (t156 < 0) = false := decide_eq_false c11
   clear c11
   replace H := Option.bind_eq_some_iff.mp H
   obtain ⟨t157, A190, H⟩ := H
   replace H : ((laws_toAct.f a1_0 a1_1 a1_2 a1_3).bind fun bt160 => ((spec_DoAct.f t157 bt160.1 bt160.2.1 bt160.2.2.1 bt160.2.2.2).bind fun bt164 => ((laws_toDisk.f k l0_0).bind fun t169 => ((laws_toAct.f a1_0 a1_1 a1_2 a1_3).bind fun bt173 => ((impl_DoAct.f t169 bt173.1 bt173.2.1 bt173.2.2.1 bt173.2.2.2).bind fun bt177 => ((laws_eqDisk.f k bt177.1 bt164.1).bind fun t182 => (if t182 = true then (laws_FnExactDoAct.j0 k bt164.2 bt177.2 (bt177.2 != bt164.2) l0_0 a1_0 a1_1 a1_2 a1_3 bt164.1 t169 bt177.1) else (laws_FnExactDoAct.j0 k bt164.2 bt177.2 true l0_0 a1_0 a1_1 a1_2 a1_3 bt164.1 t169 bt177.1)))))))) = some r := H
   have A19 := Aside0.mk A190
   clear A190
   replace H := Option.bind_eq_some_iff.mp H
   obtain ⟨⟨t160, t161, t162, t163⟩, A200, H⟩ := H
   replace H : ((spec_DoAct.f t157 t160 t161 t162 t163).bind fun bt164 => ((laws_toDisk.f k l0_0).bind fun t169 => ((laws_toAct.f a1_0 a1_1 a1_2 a1_3).bind fun bt173 => ((impl_DoAct.f t169 bt173.1 bt173.2.1 bt173.2.2.1 bt173.2.2.2).bind fun bt177 => ((laws_eqDisk.f k bt177.1 bt164.1).bind fun t182 => (if t182 = true then (laws_FnExactDoAct.j0 k bt164.2 bt177.2 (bt177.2 != bt164.2) l0_0 a1_0 a1_1 a1_2 a1_3 bt164.1 t169 bt177.1) else (laws_FnExactDoAct.j0 k bt164.2 bt177.2 true l0_0 a1_0 a1_1 a1_2 a1_3 bt164.1 t169 bt177.1))))))) = some r := H
   have A20 := Aside0.mk A200
   clear A200
   replace H := Option.bind_eq_some_iff.mp H
   obtain ⟨⟨t164, t167⟩, A210, H⟩ := H
   replace H : ((laws_toDisk.f k l0_0).bind fun t169 => ((laws_toAct.f a1_0 a1_1 a1_2 a1_3).bind fun bt173 => ((impl_DoAct.f t169 bt173.1 bt173.2.1 bt173.2.2.1 bt173.2.2.2).bind fun bt177 => ((laws_eqDisk.f k bt177.1 t164).bind fun t182 => (if t182 = true then (laws_FnExactDoAct.j0 k t167 bt177.2 (bt177.2 != t167) l0_0 a1_0 a1_1 a1_2 a1_3 t164 t169 bt177.1) else (laws_FnExactDoAct.j0 k t167 bt177.2 true l0_0 a1_0 a1_1 a1_2 a1_3 t164 t169 bt177.1)))))) = some r := H
   have A21 := Aside0.mk A210
   clear A210
   replace H := Option.bind_eq_some_iff.mp H
   obtain ⟨t169, A220, H⟩ := H
   replace H : ((laws_toAct.f a1_0 a1_1 a1_2 a1_3).bind fun bt173 => ((impl_DoAct.f t169 bt173.1 bt173.2.1 bt173.2.2.1 bt173.2.2.2).bind fun bt177 => ((laws_eqDisk.f k bt177.1 t164).bind fun t182 => (if t182 = true then (laws_FnExactDoAct.j0 k t167 bt177.2 (bt177.2 != t167) l0_0 a1_0 a1_1 a1_2 a1_3 t164 t169 bt177.1) else (laws_FnExactDoAct.j0 k t167 bt177.2 true l0_0 a1_0 a1_1 a1_2 a1_3 t164 t169 bt177.1))))) = some r := H
   have A22 := Aside0.mk A220
   clear A220
   replace H := Option.bind_eq_some_iff.mp H
   obtain ⟨⟨t173, t174, t175, t176⟩, A230, H⟩ := H
   replace H : ((impl_DoAct.f t169 t173 t174 t175 t176).bind fun bt177 => ((laws_eqDisk.f k bt177.1 t164).bind fun t182 => (if t182 = true then (laws_FnExactDoAct.j0 k t167 bt177.2 (bt177.2 != t167) l0_0 a1_0 a1_1 a1_2 a1_3 t164 t169 bt177.1) else (laws_FnExactDoAct.j0 k t167 bt177.2 true l0_0 a1_0 a1_1 a1_2 a1_3 t164 t169 bt177.1)))) = some r := H
   have A23 := Aside0.mk A230
   clear A230
   replace H := Option.bind_eq_some_iff.mp H
   obtain ⟨⟨t177, t180⟩, A240, H⟩ := H
   replace H : ((laws_eqDisk.f k t177 t164).bind fun t182 => (if t182 = true then (laws_FnExactDoAct.j0 k t167 t180 (t180 != t167) l0_0 a1_0 a1_1 a1_2 a1_3 t164 t169 t177) else (laws_FnExactDoAct.j0 k t167 t180 true l0_0 a1_0 a1_1 a1_2 a1_3 t164 t169 t177))) = some r := H
   have A24 := Aside0.mk A240
   clear A240
   have HC25 := Aside0.mk H
   clear H
   go_enter Try.func6, Try.ntmps6
   try go_wp2_with (first | ((with_reducible refine gate_dst (N := 2) rfl ?_); refine box_event ?hg (N := 2) ?hd (cs := #[.slice A0_0 l0_0.length c0_0]) (t := 24) ?hr ?_; (case hd => rfl); (case hg => rfl); (case hr => first | (go_simp; done) | (go_simp; rfl)); intro gb153 hg w26 hbox hb; have n0_ := Aside0.mk (below_step (by repeat (first | (with_reducible first | exact HB.out | apply below_alloc | apply pw_below_drewN | apply below_drew1) | exact HB.out)) hb); have n1_ := Aside0.mk (hbox); have n2_ := Aside0.mk ((by rw [hg]; exact (below_size (by repeat (first | (with_reducible first | exact HB.out | apply below_alloc | apply pw_below_drewN | apply below_drew1) | exact HB.out))) : w.heap.size ≤ gb153)); have n3_ := Aside0.mk ((by rw [hg]; exact (below_size (by repeat (first | (with_reducible first | exact HB.out | apply below_alloc | apply pw_below_drewN | apply below_drew1) | exact HB.out))) : w.heap.size ≤ gb153)); clear HB; have HB := n0_; have BK153 := n1_; have GW153 := n2_; have GE153 := n3_; clear n0_ n1_ n2_ n3_; clear hb hbox hg) | ((with_reducible refine gate_dst (N := 3) rfl ?_); refine box_event ?hg (N := 3) ?hd (cs := #[.int .i64 a1_0, .string a1_1, .string a1_2, .string a1_3]) (t := 37) ?hr ?_; (case hd => rfl); (case hg => rfl); (case hr => first | (go_simp; done) | (go_simp; rfl)); intro gb154 hg w27 hbox hb; have n0_ := Aside0.mk (blk_below (g := gb153) (o := .cells #[.slice A0_0 l0_0.length c0_0] 24 (0, 0)) (by (with_reducible repeat (first | refine blk_drewN ?_ _ | refine blk_drew ?_ | refine blk_alloc ?_ _)); exact BK153.out) hb); have n1_ := Aside0.mk (below_step (by repeat (first | (with_reducible first | exact HB.out | apply below_alloc | apply pw_below_drewN | apply below_drew1 | refine below_set ?_ GE153.out) | exact HB.out)) hb); have n2_ := Aside0.mk (hbox); have n3_ := Aside0.mk ((by rw [hg]; exact (below_size (by repeat (first | (with_reducible first | exact HB.out | apply below_alloc | apply pw_below_drewN | apply below_drew1 | refine below_set ?_ GE153.out) | exact HB.out))) : w.heap.size ≤ gb154)); have n4_ := Aside0.mk ((by rw [hg]; exact (below_size (by repeat (first | (with_reducible first | exact HB.out | apply below_alloc | apply pw_below_drewN | apply below_drew1 | refine below_set ?_ GE153.out) | exact HB.out))) : w.heap.size ≤ gb154)); have n5_ := Aside0.mk ((by rw [hg]; exact Nat.ne_of_lt (blk_lt (g := gb153) (o := .cells #[.slice A0_0 l0_0.length c0_0] 24 (0, 0)) (by (with_reducible repeat (first | refine blk_drewN ?_ _ | refine blk_drew ?_ | refine blk_alloc ?_ _)); exact BK153.out)) : gb153 ≠ gb154)); have n6_ := Aside0.mk ((by rw [hg]; exact Nat.ne_of_gt (blk_lt (g := gb153) (o := .cells #[.slice A0_0 l0_0.length c0_0] 24 (0, 0)) (by (with_reducible repeat (first | refine blk_drewN ?_ _ | refine blk_drew ?_ | refine blk_alloc ?_ _)); exact BK153.out)) : gb154 ≠ gb153)); clear BK153; clear HB; have BK153 := n0_; have HB := n1_; have BK154 := n2_; have GW154 := n3_; have GE154 := n4_; have NB153_154 := n5_; have NB154_153 := n6_; clear n0_ n1_ n2_ n3_ n4_ n5_ n6_; clear hb hbox hg; have hnb28 := NB153_154.out; have hnc28 := NB154_153.out; have hcz29_0 : w27.cell? ⟨gb153, 0, none⟩ = some (.slice A0_0 l0_0.length c0_0) := (blk_cell BK153.out 0).trans rfl; have hfz29_0 := blk_frozen BK153.out 0) | ((with_reducible refine gate_callee (f := 12) rfl ?_); refine goesL_ (some 18) rfl rfl Try.func12 (by kernel_rfl) rfl #[.agg #[.slice A0_0 l0_0.length c0_0], .int .i64 1048576] rfl (by (try simp only [List.map_toArray, List.map_cons, List.map_nil]); first | done | rfl | (simp only [List.length_drop, List.length_take]; rfl)) ?_; (with_reducible refine (laws_szDisk.calls k _ _ l0_0 1048576 t155 _ ?side1 ?side2 A3.out).mono ?_); (case side1 => repeat (first | exact (Kd.C_below HR0_0.out HB.out) | (with_reducible refine Kd.C_alloc ?_ _) | (with_reducible refine Kd.C_drewN ?_ _) | (with_reducible refine Kd.C_drew ?_))); (case side2 => exact HC0_0.out); rintro e w30 ⟨rfl, hb⟩; refine ⟨_, rfl, ?_⟩; have n0_ := Aside0.mk (blk_below (g := gb153) (o := .cells #[.slice A0_0 l0_0.length c0_0] 24 (0, 0)) (by (with_reducible repeat (first | refine blk_drewN ?_ _ | refine blk_drew ?_ | refine blk_alloc ?_ _)); exact BK153.out) hb); have n1_ := Aside0.mk (blk_below (g := gb154) (o := .cells #[.int .i64 a1_0, .string a1_1, .string a1_2, .string a1_3] 37 (0, 0)) (by (with_reducible repeat (first | refine blk_drewN ?_ _ | refine blk_drew ?_ | refine blk_alloc ?_ _)); exact BK154.out) hb); have n2_ := Aside0.mk (below_step (by repeat (first | (with_reducible first | exact HB.out | apply below_alloc | apply pw_below_drewN | apply below_drew1 | refine below_set ?_ GE153.out | refine below_set ?_ GE154.out) | exact HB.out)) hb); clear BK153; clear BK154; clear HB; have BK153 := n0_; have BK154 := n1_; have HB := n2_; clear n0_ n1_ n2_; (try clear hb); (try clear hb2); (try clear hk); (try clear hi); have hcz31_0 : w30.cell? ⟨gb154, 0, none⟩ = some (.int .i64 a1_0) := (blk_cell BK154.out 0).trans rfl; have hcz31_1 : w30.cell? ⟨gb154, 1, none⟩ = some (.string a1_1) := (blk_cell BK154.out 1).trans rfl; have hcz31_2 : w30.cell? ⟨gb154, 2, none⟩ = some (.string a1_2) := (blk_cell BK154.out 2).trans rfl; have hcz31_3 : w30.cell? ⟨gb154, 3, none⟩ = some (.string a1_3) := (blk_cell BK154.out 3).trans rfl; have hfz31_0 := blk_frozen BK154.out 0; have hfz31_1 := blk_frozen BK154.out 1; have hfz31_2 := blk_frozen BK154.out 2; have hfz31_3 := blk_frozen BK154.out 3) | ((with_reducible refine gate_callee (f := 21) rfl ?_); refine goesL_ (some 23) rfl rfl Try.func21 (by kernel_rfl) rfl #[.agg #[.int .i64 a1_0, .string a1_1, .string a1_2, .string a1_3], .int .i64 t155] rfl (by (try simp only [List.map_toArray, List.map_cons, List.map_nil]); first | done | rfl | (simp only [List.length_drop, List.length_take]; rfl)) ?_; (with_reducible refine (laws_szAct.calls a1_0 a1_1 a1_2 a1_3 t155 t156 _ A10.out).mono ?_); rintro e w32 ⟨rfl, hb⟩; refine ⟨_, rfl, ?_⟩; have n0_ := Aside0.mk (blk_below (g := gb153) (o := .cells #[.slice A0_0 l0_0.length c0_0] 24 (0, 0)) (by (with_reducible repeat (first | refine blk_drewN ?_ _ | refine blk_drew ?_ | refine blk_alloc ?_ _)); exact BK153.out) hb); have n1_ := Aside0.mk (blk_below (g := gb154) (o := .cells #[.int .i64 a1_0, .string a1_1, .string a1_2, .string a1_3] 37 (0, 0)) (by (with_reducible repeat (first | refine blk_drewN ?_ _ | refine blk_drew ?_ | refine blk_alloc ?_ _)); exact BK154.out) hb); have n2_ := Aside0.mk (below_step (by repeat (first | (with_reducible first | exact HB.out | apply below_alloc | apply pw_below_drewN | apply below_drew1 | refine below_set ?_ GE153.out | refine below_set ?_ GE154.out) | exact HB.out)) hb); clear BK153; clear BK154; clear HB; have BK153 := n0_; have BK154 := n1_; have HB := n2_; clear n0_ n1_ n2_; (try clear hb); (try clear hb2); (try clear hk); (try clear hi)))
   have n0_ := Aside0.mk (blk_drew BK153.out)
   have n1_ := Aside0.mk (blk_drew BK154.out)
   have n2_ := Aside0.mk (below_drew1 HB.out)
   clear BK153 BK154 HB
   have BK153 := n0_; have BK154 := n1_; have HB := n2_
   clear n0_ n1_ n2_
   refine start_ (n := 11) (S := fun w' => w'.cell? ⟨gb153, 0, none⟩ = some (.slice A0_0 l0_0.length c0_0) ∧ w'.cell? ⟨gb154, 0, none⟩ = some (.int .i64 a1_0) ∧ w'.cell? ⟨gb154, 1, none⟩ = some (.string a1_1) ∧ w'.cell? ⟨gb154, 2, none⟩ = some (.string a1_2) ∧ w'.cell? ⟨gb154, 3, none⟩ = some (.string a1_3)) (ds := []) #[false, false, false, false, false, false, false, false, false, false, false] (by kernel_rfl) rfl rfl ⟨(blk_cell BK153.out 0).trans rfl, (blk_cell BK154.out 0).trans rfl, (blk_cell BK154.out 1).trans rfl, (blk_cell BK154.out 2).trans rfl, (blk_cell BK154.out 3).trans rfl⟩ (fun hHeld => ?_); refine with_tabW laws_FnExactDoAct.tab8 laws_FnExactDoAct.bits8 (fun HT_ HW_ => ?_)
   generalize w32.drew = w33 at BK153 BK154 HB hHeld ⊢
   refine take_ (i := 0) (N := some 27) (v := ?_) (a' := ?_) #[true, false, false, false, false, false, false, false, false, false, false] rfl rfl (take_ofW HT_.out HW_.out (by kernel_rfl)) (fun _ _ _ h => h) (Or.inl ⟨by rfl, ?_⟩) hHeld ?_ ?_
   rotate_left
   ·rintro w' ⟨s0, s1, s2, s3, s4⟩
    go_simp
    with_reducible rfl
   rotate_left
   ·simp only [Act.put, List.setIfInBounds_toArray, List.set_cons_zero, List.set_cons_succ, i64_w, i32_w]
    rfl
   refine take_ (i := 2) (N := some 29) (v := ?_) (a' := ?_) #[true, false, true, false, false, false, false, false, false, false, false] rfl rfl (take_ofW HT_.out HW_.out (by kernel_rfl)) (fun _ _ _ h => h) (Or.inl ⟨by rfl, ?_⟩) hHeld ?_ ?_
   rotate_left
   ·rintro w' ⟨s0, s1, s2, s3, s4⟩
    go_simp
    with_reducible rfl
   rotate_left
   ·simp only [Act.put, List.setIfInBounds_toArray, List.set_cons_zero, List.set_cons_succ, i64_w, i32_w]
    rfl
   refine join_ (σ := Value × Value × Nat) 2 #[true, true, true, true, true, true, true, true, true, false, false] (fun s_ => [(28, .agg #[s_.1]), (30, .agg #[.int .i64 t160, .string t161, .string t162, .string t163]), (31, .tuple #[.agg #[s_.2.1], .bool t167]), (6, .pointer (some ⟨s_.2.2, 0, none⟩)), (26, .tuple #[.agg #[s_.2.1], .bool t167]), (32, .agg #[s_.2.1]), (33, .bool t167)]) (fun s_ w' => (w'.cell? ⟨gb153, 0, none⟩ = some (.slice A0_0 l0_0.length c0_0) ∧ w'.cell? ⟨gb154, 0, none⟩ = some (.int .i64 a1_0) ∧ w'.cell? ⟨gb154, 1, none⟩ = some (.string a1_1) ∧ w'.cell? ⟨gb154, 2, none⟩ = some (.string a1_2) ∧ w'.cell? ⟨gb154, 3, none⟩ = some (.string a1_3)) ∧ (Kd.R k67 67 w' w.heap.size (fun k_ => some k_ ≠ (s_.2.1 : Value).ownBlock) s_.1 t157) ∧ (Kd.R k67 67 w' w.heap.size (fun k_ => some k_ ≠ (s_.1 : Value).ownBlock) s_.2.1 t164) ∧ (w'.heap[gb153]? = some (.cells #[.slice A0_0 l0_0.length c0_0] 24 (0, 0))) ∧ (w'.heap[gb154]? = some (.cells #[.int .i64 a1_0, .string a1_1, .string a1_2, .string a1_3] 37 (0, 0))) ∧ (w'.heap[s_.2.2]? = some (.cells #[.slice none 0 0] 29 (0, 0))) ∧ (w.heap.size ≤ s_.2.2) ∧ (w.heap.size ≤ s_.2.2) ∧ (gb153 ≠ s_.2.2) ∧ (s_.2.2 ≠ gb153) ∧ (gb154 ≠ s_.2.2) ∧ (s_.2.2 ≠ gb154) ∧ (Below w.heap.size w w')) ?_ ?_
   rotate_left
   ·intro hCont
    refine two_ (i := 1) (j := 8) (Ni := some 28) (Nj := some 6) #[true, true, true, false, false, false, false, false, false, false, false] #[true, false, true, false, false, false, false, false, true, false, false] rfl rfl rfl rfl (two_of HT_.out (by kernel_rfl)) (by decide) (by decide) (fun K hK => ?_) (fun K hK => ?_)
    ·skip
     refine goes_ Try.func14 (by kernel_rfl) rfl #[.agg #[.slice A0_0 l0_0.length c0_0]] (by rfl) rfl rfl (by (try simp only [List.map_toArray, List.map_cons, List.map_nil]); first | done | rfl | (simp only [List.length_drop, List.length_take]; rfl)) ?_
     with_reducible refine (laws_toDisk.calls k _ _ l0_0 t157 _ ?side1 ?side2 A19.out).mono ?_
     (case side1 => repeat (first | exact (Kd.C_below HR0_0.out HB.out) | (with_reducible refine Kd.C_alloc ?_ _) | (with_reducible refine Kd.C_drewN ?_ _) | (with_reducible refine Kd.C_drew ?_)))
     (case side2 => exact HC0_0.out)
     rintro e w34 ⟨v158, rfl, ho0, hb⟩
     refine ⟨_, rfl, ?_⟩
     have n0_ := Aside0.mk (Kd.R_lower ho0 (below_size HB.out))
     have n1_ := Aside0.mk (blk_below BK153.out hb)
     have n2_ := Aside0.mk (blk_below BK154.out hb)
     have n3_ := Aside0.mk (below_step HB.out hb)
     clear BK153 BK154 HB
     have HO159 := n0_; have BK153 := n1_; have BK154 := n2_; have HB := n3_
     clear n0_ n1_ n2_ n3_
     (try clear hb); (try clear hb2); (try clear hk); (try clear hi); (try clear ho0)
     refine hK.out _ _ ⟨(blk_cell BK153.out 0).trans rfl, (blk_cell BK154.out 0).trans rfl, (blk_cell BK154.out 1).trans rfl, (blk_cell BK154.out 2).trans rfl, (blk_cell BK154.out 3).trans rfl⟩ (fun hHeld => ?_)
     clear hK K
     refine norm_ (a' := ?_) ?_ ?_
     rotate_left
     ·show Act.put _ (some 28) _ = _
      simp only [Act.put, List.setIfInBounds_toArray, List.set_cons_zero, List.set_cons_succ, i64_w, i32_w]
      rfl
     refine two_ (i := 3) (j := 8) (Ni := some 30) (Nj := some 6) #[true, true, true, true, false, false, false, false, false, false, false] #[true, true, true, false, false, false, false, false, true, false, false] rfl rfl rfl rfl (two_of HT_.out (by kernel_rfl)) (by decide) (by decide) (fun K hK => ?_) (fun K hK => ?_)
     ·skip
      refine goes_ Try.func23 (by kernel_rfl) rfl #[.agg #[.int .i64 a1_0, .string a1_1, .string a1_2, .string a1_3]] (by rfl) rfl rfl (by (try simp only [List.map_toArray, List.map_cons, List.map_nil]); first | done | rfl | (simp only [List.length_drop, List.length_take]; rfl)) ?_
      with_reducible refine (laws_toAct.calls a1_0 a1_1 a1_2 a1_3 t160 t161 t162 t163 _ A20.out).mono ?_
      rintro e w35 ⟨rfl, hb⟩
      refine ⟨_, rfl, ?_⟩
      have n0_ := Aside0.mk (Kd.R_below HO159.out hb)
      have n1_ := Aside0.mk (blk_below BK153.out hb)
      have n2_ := Aside0.mk (blk_below BK154.out hb)
      have n3_ := Aside0.mk (below_step HB.out hb)
      clear HO159 BK153 BK154 HB
      have HO159 := n0_; have BK153 := n1_; have BK154 := n2_; have HB := n3_
      clear n0_ n1_ n2_ n3_
      (try clear hb); (try clear hb2); (try clear hk); (try clear hi)
      obtain ⟨Ao36, co36, eo36⟩ := Kd.R_slice HO159.out
      (first | subst eo36 | (injection eo36 with f1_ f2_ f3_; have f4_ := f1_.symm; have f5_ := f3_.symm; clear f1_ f2_ f3_; subst f4_; subst f5_))
      refine hK.out _ _ ⟨(blk_cell BK153.out 0).trans rfl, (blk_cell BK154.out 0).trans rfl, (blk_cell BK154.out 1).trans rfl, (blk_cell BK154.out 2).trans rfl, (blk_cell BK154.out 3).trans rfl⟩ (fun hHeld => ?_)
      clear hK K
      refine norm_ (a' := ?_) ?_ ?_
      rotate_left
      ·show Act.put _ (some 30) _ = _
       simp only [Act.put, List.setIfInBounds_toArray, List.set_cons_zero, List.set_cons_succ, i64_w, i32_w]
       rfl
      refine two_ (i := 4) (j := 8) (Ni := some 31) (Nj := some 6) #[true, true, true, true, true, false, false, false, false, false, false] #[true, true, true, true, false, false, false, false, true, false, false] rfl rfl rfl rfl (two_of HT_.out (by kernel_rfl)) (by decide) (by decide) (fun K hK => ?_) (fun K hK => ?_)
      ·skip
       refine goes_ Try.func22 (by kernel_rfl) rfl #[.agg #[.slice Ao36 t157.length co36], .agg #[.int .i64 t160, .string t161, .string t162, .string t163]] (by rfl) rfl rfl (by (try simp only [List.map_toArray, List.map_cons, List.map_nil]); first | done | rfl | (simp only [List.length_drop, List.length_take]; rfl)) ?_
       with_reducible refine (spec_DoAct.calls _ _ t157 t160 t161 t162 t163 t164 t167 _ ?side1 ?side2 A21.out).mono ?_
       (case side1 => repeat (first | exact (Kd.R_reads' HO159.out).2.2 | (with_reducible refine Kd.C_alloc ?_ _) | (with_reducible refine Kd.C_drewN ?_ _) | (with_reducible refine Kd.C_drew ?_)))
       (case side2 => exact (Kd.R_reads' HO159.out).2.1)
       rintro e w37 ⟨v165, rfl, ho0, hb⟩
       refine ⟨_, rfl, ?_⟩
       have n0_ := Aside0.mk (Kd.R_elder' HO159.out (Kd.R_base ho0) hb)
       have n1_ := Aside0.mk (Kd.R_lower (Kd.R_new' ho0 (Kd.R_lt HO159.out)) (below_size HB.out))
       have n2_ := Aside0.mk (blk_below BK153.out hb)
       have n3_ := Aside0.mk (blk_below BK154.out hb)
       have n4_ := Aside0.mk (below_step HB.out hb)
       clear HO159 BK153 BK154 HB
       have HO159 := n0_; have HO166 := n1_; have BK153 := n2_; have BK154 := n3_; have HB := n4_
       clear n0_ n1_ n2_ n3_ n4_
       (try clear hb); (try clear hb2); (try clear hk); (try clear hi); (try clear ho0)
       refine hK.out _ _ ⟨(blk_cell BK153.out 0).trans rfl, (blk_cell BK154.out 0).trans rfl, (blk_cell BK154.out 1).trans rfl, (blk_cell BK154.out 2).trans rfl, (blk_cell BK154.out 3).trans rfl⟩ (fun hHeld => ?_)
       clear hK K
       refine norm_ (a' := ?_) ?_ ?_
       rotate_left
       ·show Act.put _ (some 31) _ = _
        simp only [Act.put, List.setIfInBounds_toArray, List.set_cons_zero, List.set_cons_succ, i64_w, i32_w]
        rfl
       refine pure_ (i := 5) (N := some 26) (v := ?_) (a' := ?_) #[true, true, true, true, true, true, false, false, false, false, false] rfl rfl (any_of HT_.out (by kernel_rfl)) (fun _ _ _ h => h) (Or.inl ⟨by rfl, ?_⟩) ?_ ?_
       rotate_left
       ·intro w'
        go_simp
        with_reducible rfl
       rotate_left
       ·simp only [Act.put, List.setIfInBounds_toArray, List.set_cons_zero, List.set_cons_succ, i64_w, i32_w]
        rfl
       refine pure_ (i := 6) (N := some 32) (v := ?_) (a' := ?_) #[true, true, true, true, true, true, true, false, false, false, false] rfl rfl (any_of HT_.out (by kernel_rfl)) (fun _ _ _ h => h) (Or.inl ⟨by rfl, ?_⟩) ?_ ?_
       rotate_left
       ·intro w'
        go_simp
        with_reducible rfl
       rotate_left
       ·simp only [Act.put, List.setIfInBounds_toArray, List.set_cons_zero, List.set_cons_succ, i64_w, i32_w]
        rfl
       refine pure_ (i := 7) (N := some 33) (v := ?_) (a' := ?_) #[true, true, true, true, true, true, true, true, false, false, false] rfl rfl (any_of HT_.out (by kernel_rfl)) (fun _ _ _ h => h) (Or.inl ⟨by rfl, ?_⟩) ?_ ?_
       rotate_left
       ·intro w'
        go_simp
        with_reducible rfl
       rotate_left
       ·simp only [Act.put, List.setIfInBounds_toArray, List.set_cons_zero, List.set_cons_succ, i64_w, i32_w]
        rfl
       refine one_ (i := 8) (N := some 6) #[true, true, true, true, true, true, true, true, true, false, false] rfl rfl (one_of HT_.out (by kernel_rfl)) (by decide) (fun K hK => ?_)
       refine box_step ?hg (N := 6) ?hd (cs := #[.slice none 0 0]) (t := 29) ?hr ?_; (case hd => rfl); (case hg => rfl); (case hr => first | (go_simp; done) | (go_simp; rfl))
       intro gb168 hg w38 hbox hb
       have n0_ := Aside0.mk (Kd.R_below HO159.out hb)
       have n1_ := Aside0.mk (Kd.R_below HO166.out hb)
       have n2_ := Aside0.mk (blk_below BK153.out hb)
       have n3_ := Aside0.mk (blk_below BK154.out hb)
       have n4_ := Aside0.mk (below_step HB.out hb)
       have n5_ := Aside0.mk (hbox)
       have n6_ := Aside0.mk ((by rw [hg]; exact (below_size HB.out) : w.heap.size ≤ gb168))
       have n7_ := Aside0.mk ((by rw [hg]; exact (below_size HB.out) : w.heap.size ≤ gb168))
       have n8_ := Aside0.mk ((by rw [hg]; exact Nat.ne_of_lt (blk_lt BK153.out) : gb153 ≠ gb168))
       have n9_ := Aside0.mk ((by rw [hg]; exact Nat.ne_of_gt (blk_lt BK153.out) : gb168 ≠ gb153))
       have n10_ := Aside0.mk ((by rw [hg]; exact Nat.ne_of_lt (blk_lt BK154.out) : gb154 ≠ gb168))
       have n11_ := Aside0.mk ((by rw [hg]; exact Nat.ne_of_gt (blk_lt BK154.out) : gb168 ≠ gb154))
       clear HO159 HO166 BK153 BK154 HB
       have HO159 := n0_; have HO166 := n1_; have BK153 := n2_; have BK154 := n3_; have HB := n4_; have BK168 := n5_; have GW168 := n6_; have GE168 := n7_; have NB153_168 := n8_; have NB168_153 := n9_; have NB154_168 := n10_; have NB168_154 := n11_
       clear n0_ n1_ n2_ n3_ n4_ n5_ n6_ n7_ n8_ n9_ n10_ n11_ hb hbox hg
       refine hK.out _ _ ⟨(blk_cell BK153.out 0).trans rfl, (blk_cell BK154.out 0).trans rfl, (blk_cell BK154.out 1).trans rfl, (blk_cell BK154.out 2).trans rfl, (blk_cell BK154.out 3).trans rfl⟩ (fun hHeld => ?_)
       clear hK K
       refine norm_ (a' := ?_) ?_ ?_
       rotate_left
       ·show Act.put _ (some 6) _ = _
        simp only [Act.put, List.setIfInBounds_toArray, List.set_cons_zero, List.set_cons_succ, i64_w, i32_w]
        rfl
       exact norm_ (by simp only [putAll, Act.put, List.setIfInBounds_toArray, List.set_cons_zero, List.set_cons_succ]) (hCont (.slice Ao36 t157.length co36, v165, gb168) _ ⟨hHeld, (Kd.R_mono HO159.out (fun _ hk => hk.2)), (Kd.R_mono HO166.out (fun _ hk => hk.2)), BK153.out, BK154.out, BK168.out, GW168.out, GE168.out, NB153_168.out, NB168_153.out, NB154_168.out, NB168_154.out, HB.out⟩)
      ·skip
       refine box_step ?hg (N := 6) ?hd (cs := #[.slice none 0 0]) (t := 29) ?hr ?_; (case hd => rfl); (case hg => rfl); (case hr => first | (go_simp; done) | (go_simp; rfl))
       intro gb168 hg w36 hbox hb
       have n0_ := Aside0.mk (Kd.R_below HO159.out hb)
       have n1_ := Aside0.mk (blk_below BK153.out hb)
       have n2_ := Aside0.mk (blk_below BK154.out hb)
       have n3_ := Aside0.mk (below_step HB.out hb)
       have n4_ := Aside0.mk (hbox)
       have n5_ := Aside0.mk ((by rw [hg]; exact (below_size HB.out) : w.heap.size ≤ gb168))
       have n6_ := Aside0.mk ((by rw [hg]; exact (below_size HB.out) : w.heap.size ≤ gb168))
       have n7_ := Aside0.mk ((by rw [hg]; exact Nat.ne_of_lt (blk_lt BK153.out) : gb153 ≠ gb168))
       have n8_ := Aside0.mk ((by rw [hg]; exact Nat.ne_of_gt (blk_lt BK153.out) : gb168 ≠ gb153))
       have n9_ := Aside0.mk ((by rw [hg]; exact Nat.ne_of_lt (blk_lt BK154.out) : gb154 ≠ gb168))
       have n10_ := Aside0.mk ((by rw [hg]; exact Nat.ne_of_gt (blk_lt BK154.out) : gb168 ≠ gb154))
       clear HO159 BK153 BK154 HB
       have HO159 := n0_; have BK153 := n1_; have BK154 := n2_; have HB := n3_; have BK168 := n4_; have GW168 := n5_; have GE168 := n6_; have NB153_168 := n7_; have NB168_153 := n8_; have NB154_168 := n9_; have NB168_154 := n10_
       clear n0_ n1_ n2_ n3_ n4_ n5_ n6_ n7_ n8_ n9_ n10_ hb hbox hg
       obtain ⟨Ao37, co37, eo37⟩ := Kd.R_slice HO159.out
       (first | subst eo37 | (injection eo37 with f1_ f2_ f3_; have f4_ := f1_.symm; have f5_ := f3_.symm; clear f1_ f2_ f3_; subst f4_; subst f5_))
       refine hK.out _ _ ⟨(blk_cell BK153.out 0).trans rfl, (blk_cell BK154.out 0).trans rfl, (blk_cell BK154.out 1).trans rfl, (blk_cell BK154.out 2).trans rfl, (blk_cell BK154.out 3).trans rfl⟩ (fun hHeld => ?_)
       clear hK K
       refine norm_ (a' := ?_) ?_ ?_
       rotate_left
       ·show Act.put _ (some 6) _ = _
        simp only [Act.put, List.setIfInBounds_toArray, List.set_cons_zero, List.set_cons_succ, i64_w, i32_w]
        rfl
       refine one_ (i := 4) (N := some 31) #[true, true, true, true, true, false, false, false, true, false, false] rfl rfl (one_of HT_.out (by kernel_rfl)) (by decide) (fun K hK => ?_)
       refine goes_ Try.func22 (by kernel_rfl) rfl #[.agg #[.slice Ao37 t157.length co37], .agg #[.int .i64 t160, .string t161, .string t162, .string t163]] (by rfl) rfl rfl (by (try simp only [List.map_toArray, List.map_cons, List.map_nil]); first | done | rfl | (simp only [List.length_drop, List.length_take]; rfl)) ?_
       with_reducible refine (spec_DoAct.calls _ _ t157 t160 t161 t162 t163 t164 t167 _ ?side1 ?side2 A21.out).mono ?_
       (case side1 => repeat (first | exact (Kd.R_reads' HO159.out).2.2 | (with_reducible refine Kd.C_alloc ?_ _) | (with_reducible refine Kd.C_drewN ?_ _) | (with_reducible refine Kd.C_drew ?_)))
       (case side2 => exact (Kd.R_reads' HO159.out).2.1)
       rintro e w38 ⟨v165, rfl, ho0, hb⟩
       refine ⟨_, rfl, ?_⟩
       have n0_ := Aside0.mk (Kd.R_elder' HO159.out (Kd.R_base ho0) hb)
       have n1_ := Aside0.mk (Kd.R_lower (Kd.R_new' ho0 (Kd.R_lt HO159.out)) (below_size HB.out))
       have n2_ := Aside0.mk (blk_below BK153.out hb)
       have n3_ := Aside0.mk (blk_below BK154.out hb)
       have n4_ := Aside0.mk (blk_below BK168.out hb)
       have n5_ := Aside0.mk (below_step HB.out hb)
       clear HO159 BK153 BK154 BK168 HB
       have HO159 := n0_; have HO166 := n1_; have BK153 := n2_; have BK154 := n3_; have BK168 := n4_; have HB := n5_
       clear n0_ n1_ n2_ n3_ n4_ n5_
       (try clear hb); (try clear hb2); (try clear hk); (try clear hi); (try clear ho0)
       refine hK.out _ _ ⟨(blk_cell BK153.out 0).trans rfl, (blk_cell BK154.out 0).trans rfl, (blk_cell BK154.out 1).trans rfl, (blk_cell BK154.out 2).trans rfl, (blk_cell BK154.out 3).trans rfl⟩ (fun hHeld => ?_)
       clear hK K
       refine norm_ (a' := ?_) ?_ ?_
       rotate_left
       ·show Act.put _ (some 31) _ = _
        simp only [Act.put, List.setIfInBounds_toArray, List.set_cons_zero, List.set_cons_succ, i64_w, i32_w]
        rfl
       refine pure_ (i := 5) (N := some 26) (v := ?_) (a' := ?_) #[true, true, true, true, true, true, false, false, true, false, false] rfl rfl (any_of HT_.out (by kernel_rfl)) (fun _ _ _ h => h) (Or.inl ⟨by rfl, ?_⟩) ?_ ?_
       rotate_left
       ·intro w'
        go_simp
        with_reducible rfl
       rotate_left
       ·simp only [Act.put, List.setIfInBounds_toArray, List.set_cons_zero, List.set_cons_succ, i64_w, i32_w]
        rfl
       refine pure_ (i := 6) (N := some 32) (v := ?_) (a' := ?_) #[true, true, true, true, true, true, true, false, true, false, false] rfl rfl (any_of HT_.out (by kernel_rfl)) (fun _ _ _ h => h) (Or.inl ⟨by rfl, ?_⟩) ?_ ?_
       rotate_left
       ·intro w'
        go_simp
        with_reducible rfl
       rotate_left
       ·simp only [Act.put, List.setIfInBounds_toArray, List.set_cons_zero, List.set_cons_succ, i64_w, i32_w]
        rfl
       refine pure_ (i := 7) (N := some 33) (v := ?_) (a' := ?_) #[true, true, true, true, true, true, true, true, true, false, false] rfl rfl (any_of HT_.out (by kernel_rfl)) (fun _ _ _ h => h) (Or.inl ⟨by rfl, ?_⟩) ?_ ?_
       rotate_left
       ·intro w'
        go_simp
        with_reducible rfl
       rotate_left
       ·simp only [Act.put, List.setIfInBounds_toArray, List.set_cons_zero, List.set_cons_succ, i64_w, i32_w]
        rfl
       exact norm_ (by simp only [putAll, Act.put, List.setIfInBounds_toArray, List.set_cons_zero, List.set_cons_succ]) (hCont (.slice Ao37 t157.length co37, v165, gb168) _ ⟨hHeld, (Kd.R_mono HO159.out (fun _ hk => hk.2)), (Kd.R_mono HO166.out (fun _ hk => hk.2)), BK153.out, BK154.out, BK168.out, GW168.out, GE168.out, NB153_168.out, NB168_153.out, NB154_168.out, NB168_154.out, HB.out⟩)
     ·skip
      refine box_step ?hg (N := 6) ?hd (cs := #[.slice none 0 0]) (t := 29) ?hr ?_; (case hd => rfl); (case hg => rfl); (case hr => first | (go_simp; done) | (go_simp; rfl))
      intro gb168 hg w35 hbox hb
      have n0_ := Aside0.mk (Kd.R_below HO159.out hb)
      have n1_ := Aside0.mk (blk_below BK153.out hb)
      have n2_ := Aside0.mk (blk_below BK154.out hb)
      have n3_ := Aside0.mk (below_step HB.out hb)
      have n4_ := Aside0.mk (hbox)
      have n5_ := Aside0.mk ((by rw [hg]; exact (below_size HB.out) : w.heap.size ≤ gb168))
      have n6_ := Aside0.mk ((by rw [hg]; exact (below_size HB.out) : w.heap.size ≤ gb168))
      have n7_ := Aside0.mk ((by rw [hg]; exact Nat.ne_of_lt (blk_lt BK153.out) : gb153 ≠ gb168))
      have n8_ := Aside0.mk ((by rw [hg]; exact Nat.ne_of_gt (blk_lt BK153.out) : gb168 ≠ gb153))
      have n9_ := Aside0.mk ((by rw [hg]; exact Nat.ne_of_lt (blk_lt BK154.out) : gb154 ≠ gb168))
      have n10_ := Aside0.mk ((by rw [hg]; exact Nat.ne_of_gt (blk_lt BK154.out) : gb168 ≠ gb154))
      clear HO159 BK153 BK154 HB
      have HO159 := n0_; have BK153 := n1_; have BK154 := n2_; have HB := n3_; have BK168 := n4_; have GW168 := n5_; have GE168 := n6_; have NB153_168 := n7_; have NB168_153 := n8_; have NB154_168 := n9_; have NB168_154 := n10_
      clear n0_ n1_ n2_ n3_ n4_ n5_ n6_ n7_ n8_ n9_ n10_ hb hbox hg
      refine hK.out _ _ ⟨(blk_cell BK153.out 0).trans rfl, (blk_cell BK154.out 0).trans rfl, (blk_cell BK154.out 1).trans rfl, (blk_cell BK154.out 2).trans rfl, (blk_cell BK154.out 3).trans rfl⟩ (fun hHeld => ?_)
      clear hK K
      refine norm_ (a' := ?_) ?_ ?_
      rotate_left
      ·show Act.put _ (some 6) _ = _
       simp only [Act.put, List.setIfInBounds_toArray, List.set_cons_zero, List.set_cons_succ, i64_w, i32_w]
       rfl
      refine one_ (i := 3) (N := some 30) #[true, true, true, true, false, false, false, false, true, false, false] rfl rfl (one_of HT_.out (by kernel_rfl)) (by decide) (fun K hK => ?_)
      refine goes_ Try.func23 (by kernel_rfl) rfl #[.agg #[.int .i64 a1_0, .string a1_1, .string a1_2, .string a1_3]] (by rfl) rfl rfl (by (try simp only [List.map_toArray, List.map_cons, List.map_nil]); first | done | rfl | (simp only [List.length_drop, List.length_take]; rfl)) ?_
      with_reducible refine (laws_toAct.calls a1_0 a1_1 a1_2 a1_3 t160 t161 t162 t163 _ A20.out).mono ?_
      rintro e w36 ⟨rfl, hb⟩
      refine ⟨_, rfl, ?_⟩
      have n0_ := Aside0.mk (Kd.R_below HO159.out hb)
      have n1_ := Aside0.mk (blk_below BK153.out hb)
      have n2_ := Aside0.mk (blk_below BK154.out hb)
      have n3_ := Aside0.mk (blk_below BK168.out hb)
      have n4_ := Aside0.mk (below_step HB.out hb)
      clear HO159 BK153 BK154 BK168 HB
      have HO159 := n0_; have BK153 := n1_; have BK154 := n2_; have BK168 := n3_; have HB := n4_
      clear n0_ n1_ n2_ n3_ n4_
      (try clear hb); (try clear hb2); (try clear hk); (try clear hi)
      obtain ⟨Ao37, co37, eo37⟩ := Kd.R_slice HO159.out
      (first | subst eo37 | (injection eo37 with f1_ f2_ f3_; have f4_ := f1_.symm; have f5_ := f3_.symm; clear f1_ f2_ f3_; subst f4_; subst f5_))
      refine hK.out _ _ ⟨(blk_cell BK153.out 0).trans rfl, (blk_cell BK154.out 0).trans rfl, (blk_cell BK154.out 1).trans rfl, (blk_cell BK154.out 2).trans rfl, (blk_cell BK154.out 3).trans rfl⟩ (fun hHeld => ?_)
      clear hK K
      refine norm_ (a' := ?_) ?_ ?_
      rotate_left
      ·show Act.put _ (some 30) _ = _
       simp only [Act.put, List.setIfInBounds_toArray, List.set_cons_zero, List.set_cons_succ, i64_w, i32_w]
       rfl
      refine one_ (i := 4) (N := some 31) #[true, true, true, true, true, false, false, false, true, false, false] rfl rfl (one_of HT_.out (by kernel_rfl)) (by decide) (fun K hK => ?_)
      refine goes_ Try.func22 (by kernel_rfl) rfl #[.agg #[.slice Ao37 t157.length co37], .agg #[.int .i64 t160, .string t161, .string t162, .string t163]] (by rfl) rfl rfl (by (try simp only [List.map_toArray, List.map_cons, List.map_nil]); first | done | rfl | (simp only [List.length_drop, List.length_take]; rfl)) ?_
      with_reducible refine (spec_DoAct.calls _ _ t157 t160 t161 t162 t163 t164 t167 _ ?side1 ?side2 A21.out).mono ?_
      (case side1 => repeat (first | exact (Kd.R_reads' HO159.out).2.2 | (with_reducible refine Kd.C_alloc ?_ _) | (with_reducible refine Kd.C_drewN ?_ _) | (with_reducible refine Kd.C_drew ?_)))
      (case side2 => exact (Kd.R_reads' HO159.out).2.1)
      rintro e w38 ⟨v165, rfl, ho0, hb⟩
      refine ⟨_, rfl, ?_⟩
      have n0_ := Aside0.mk (Kd.R_elder' HO159.out (Kd.R_base ho0) hb)
      have n1_ := Aside0.mk (Kd.R_lower (Kd.R_new' ho0 (Kd.R_lt HO159.out)) (below_size HB.out))
      have n2_ := Aside0.mk (blk_below BK153.out hb)
      have n3_ := Aside0.mk (blk_below BK154.out hb)
      have n4_ := Aside0.mk (blk_below BK168.out hb)
      have n5_ := Aside0.mk (below_step HB.out hb)
      clear HO159 BK153 BK154 BK168 HB
      have HO159 := n0_; have HO166 := n1_; have BK153 := n2_; have BK154 := n3_; have BK168 := n4_; have HB := n5_
      clear n0_ n1_ n2_ n3_ n4_ n5_
      (try clear hb); (try clear hb2); (try clear hk); (try clear hi); (try clear ho0)
      refine hK.out _ _ ⟨(blk_cell BK153.out 0).trans rfl, (blk_cell BK154.out 0).trans rfl, (blk_cell BK154.out 1).trans rfl, (blk_cell BK154.out 2).trans rfl, (blk_cell BK154.out 3).trans rfl⟩ (fun hHeld => ?_)
      clear hK K
      refine norm_ (a' := ?_) ?_ ?_
      rotate_left
      ·show Act.put _ (some 31) _ = _
       simp only [Act.put, List.setIfInBounds_toArray, List.set_cons_zero, List.set_cons_succ, i64_w, i32_w]
       rfl
      refine pure_ (i := 5) (N := some 26) (v := ?_) (a' := ?_) #[true, true, true, true, true, true, false, false, true, false, false] rfl rfl (any_of HT_.out (by kernel_rfl)) (fun _ _ _ h => h) (Or.inl ⟨by rfl, ?_⟩) ?_ ?_
      rotate_left
      ·intro w'
       go_simp
       with_reducible rfl
      rotate_left
      ·simp only [Act.put, List.setIfInBounds_toArray, List.set_cons_zero, List.set_cons_succ, i64_w, i32_w]
       rfl
      refine pure_ (i := 6) (N := some 32) (v := ?_) (a' := ?_) #[true, true, true, true, true, true, true, false, true, false, false] rfl rfl (any_of HT_.out (by kernel_rfl)) (fun _ _ _ h => h) (Or.inl ⟨by rfl, ?_⟩) ?_ ?_
      rotate_left
      ·intro w'
       go_simp
       with_reducible rfl
      rotate_left
      ·simp only [Act.put, List.setIfInBounds_toArray, List.set_cons_zero, List.set_cons_succ, i64_w, i32_w]
       rfl
      refine pure_ (i := 7) (N := some 33) (v := ?_) (a' := ?_) #[true, true, true, true, true, true, true, true, true, false, false] rfl rfl (any_of HT_.out (by kernel_rfl)) (fun _ _ _ h => h) (Or.inl ⟨by rfl, ?_⟩) ?_ ?_
      rotate_left
      ·intro w'
       go_simp
       with_reducible rfl
      rotate_left
      ·simp only [Act.put, List.setIfInBounds_toArray, List.set_cons_zero, List.set_cons_succ, i64_w, i32_w]
       rfl
      exact norm_ (by simp only [putAll, Act.put, List.setIfInBounds_toArray, List.set_cons_zero, List.set_cons_succ]) (hCont (.slice Ao37 t157.length co37, v165, gb168) _ ⟨hHeld, (Kd.R_mono HO159.out (fun _ hk => hk.2)), (Kd.R_mono HO166.out (fun _ hk => hk.2)), BK153.out, BK154.out, BK168.out, GW168.out, GE168.out, NB153_168.out, NB168_153.out, NB154_168.out, NB168_154.out, HB.out⟩)
    ·skip
     refine box_step ?hg (N := 6) ?hd (cs := #[.slice none 0 0]) (t := 29) ?hr ?_; (case hd => rfl); (case hg => rfl); (case hr => first | (go_simp; done) | (go_simp; rfl))
     intro gb168 hg w34 hbox hb
     have n0_ := Aside0.mk (blk_below BK153.out hb)
     have n1_ := Aside0.mk (blk_below BK154.out hb)
     have n2_ := Aside0.mk (below_step HB.out hb)
     have n3_ := Aside0.mk (hbox)
     have n4_ := Aside0.mk ((by rw [hg]; exact (below_size HB.out) : w.heap.size ≤ gb168))
     have n5_ := Aside0.mk ((by rw [hg]; exact (below_size HB.out) : w.heap.size ≤ gb168))
     have n6_ := Aside0.mk ((by rw [hg]; exact Nat.ne_of_lt (blk_lt BK153.out) : gb153 ≠ gb168))
     have n7_ := Aside0.mk ((by rw [hg]; exact Nat.ne_of_gt (blk_lt BK153.out) : gb168 ≠ gb153))
     have n8_ := Aside0.mk ((by rw [hg]; exact Nat.ne_of_lt (blk_lt BK154.out) : gb154 ≠ gb168))
     have n9_ := Aside0.mk ((by rw [hg]; exact Nat.ne_of_gt (blk_lt BK154.out) : gb168 ≠ gb154))
     clear BK153 BK154 HB
     have BK153 := n0_; have BK154 := n1_; have HB := n2_; have BK168 := n3_; have GW168 := n4_; have GE168 := n5_; have NB153_168 := n6_; have NB168_153 := n7_; have NB154_168 := n8_; have NB168_154 := n9_
     clear n0_ n1_ n2_ n3_ n4_ n5_ n6_ n7_ n8_ n9_ hb hbox hg
     refine hK.out _ _ ⟨(blk_cell BK153.out 0).trans rfl, (blk_cell BK154.out 0).trans rfl, (blk_cell BK154.out 1).trans rfl, (blk_cell BK154.out 2).trans rfl, (blk_cell BK154.out 3).trans rfl⟩ (fun hHeld => ?_)
     clear hK K
     refine norm_ (a' := ?_) ?_ ?_
     rotate_left
     ·show Act.put _ (some 6) _ = _
      simp only [Act.put, List.setIfInBounds_toArray, List.set_cons_zero, List.set_cons_succ, i64_w, i32_w]
      rfl
     refine one_ (i := 1) (N := some 28) #[true, true, true, false, false, false, false, false, true, false, false] rfl rfl (one_of HT_.out (by kernel_rfl)) (by decide) (fun K hK => ?_)
     refine goes_ Try.func14 (by kernel_rfl) rfl #[.agg #[.slice A0_0 l0_0.length c0_0]] (by rfl) rfl rfl (by (try simp only [List.map_toArray, List.map_cons, List.map_nil]); first | done | rfl | (simp only [List.length_drop, List.length_take]; rfl)) ?_
     with_reducible refine (laws_toDisk.calls k _ _ l0_0 t157 _ ?side1 ?side2 A19.out).mono ?_
     (case side1 => repeat (first | exact (Kd.C_below HR0_0.out HB.out) | (with_reducible refine Kd.C_alloc ?_ _) | (with_reducible refine Kd.C_drewN ?_ _) | (with_reducible refine Kd.C_drew ?_)))
     (case side2 => exact HC0_0.out)
     rintro e w35 ⟨v158, rfl, ho0, hb⟩
     refine ⟨_, rfl, ?_⟩
     have n0_ := Aside0.mk (Kd.R_lower ho0 (below_size HB.out))
     have n1_ := Aside0.mk (blk_below BK153.out hb)
     have n2_ := Aside0.mk (blk_below BK154.out hb)
     have n3_ := Aside0.mk (blk_below BK168.out hb)
     have n4_ := Aside0.mk (below_step HB.out hb)
     clear BK153 BK154 BK168 HB
     have HO159 := n0_; have BK153 := n1_; have BK154 := n2_; have BK168 := n3_; have HB := n4_
     clear n0_ n1_ n2_ n3_ n4_
     (try clear hb); (try clear hb2); (try clear hk); (try clear hi); (try clear ho0)
     refine hK.out _ _ ⟨(blk_cell BK153.out 0).trans rfl, (blk_cell BK154.out 0).trans rfl, (blk_cell BK154.out 1).trans rfl, (blk_cell BK154.out 2).trans rfl, (blk_cell BK154.out 3).trans rfl⟩ (fun hHeld => ?_)
     clear hK K
     refine norm_ (a' := ?_) ?_ ?_
     rotate_left
     ·show Act.put _ (some 28) _ = _
      simp only [Act.put, List.setIfInBounds_toArray, List.set_cons_zero, List.set_cons_succ, i64_w, i32_w]
      rfl
     refine one_ (i := 3) (N := some 30) #[true, true, true, true, false, false, false, false, true, false, false] rfl rfl (one_of HT_.out (by kernel_rfl)) (by decide) (fun K hK => ?_)
     refine goes_ Try.func23 (by kernel_rfl) rfl #[.agg #[.int .i64 a1_0, .string a1_1, .string a1_2, .string a1_3]] (by rfl) rfl rfl (by (try simp only [List.map_toArray, List.map_cons, List.map_nil]); first | done | rfl | (simp only [List.length_drop, List.length_take]; rfl)) ?_
     with_reducible refine (laws_toAct.calls a1_0 a1_1 a1_2 a1_3 t160 t161 t162 t163 _ A20.out).mono ?_
     rintro e w36 ⟨rfl, hb⟩
     refine ⟨_, rfl, ?_⟩
     have n0_ := Aside0.mk (Kd.R_below HO159.out hb)
     have n1_ := Aside0.mk (blk_below BK153.out hb)
     have n2_ := Aside0.mk (blk_below BK154.out hb)
     have n3_ := Aside0.mk (blk_below BK168.out hb)
     have n4_ := Aside0.mk (below_step HB.out hb)
     clear HO159 BK153 BK154 BK168 HB
     have HO159 := n0_; have BK153 := n1_; have BK154 := n2_; have BK168 := n3_; have HB := n4_
     clear n0_ n1_ n2_ n3_ n4_
     (try clear hb); (try clear hb2); (try clear hk); (try clear hi)
     obtain ⟨Ao37, co37, eo37⟩ := Kd.R_slice HO159.out
     (first | subst eo37 | (injection eo37 with f1_ f2_ f3_; have f4_ := f1_.symm; have f5_ := f3_.symm; clear f1_ f2_ f3_; subst f4_; subst f5_))
     refine hK.out _ _ ⟨(blk_cell BK153.out 0).trans rfl, (blk_cell BK154.out 0).trans rfl, (blk_cell BK154.out 1).trans rfl, (blk_cell BK154.out 2).trans rfl, (blk_cell BK154.out 3).trans rfl⟩ (fun hHeld => ?_)
     clear hK K
     refine norm_ (a' := ?_) ?_ ?_
     rotate_left
     ·show Act.put _ (some 30) _ = _
      simp only [Act.put, List.setIfInBounds_toArray, List.set_cons_zero, List.set_cons_succ, i64_w, i32_w]
      rfl
     refine one_ (i := 4) (N := some 31) #[true, true, true, true, true, false, false, false, true, false, false] rfl rfl (one_of HT_.out (by kernel_rfl)) (by decide) (fun K hK => ?_)
     refine goes_ Try.func22 (by kernel_rfl) rfl #[.agg #[.slice Ao37 t157.length co37], .agg #[.int .i64 t160, .string t161, .string t162, .string t163]] (by rfl) rfl rfl (by (try simp only [List.map_toArray, List.map_cons, List.map_nil]); first | done | rfl | (simp only [List.length_drop, List.length_take]; rfl)) ?_
     with_reducible refine (spec_DoAct.calls _ _ t157 t160 t161 t162 t163 t164 t167 _ ?side1 ?side2 A21.out).mono ?_
     (case side1 => repeat (first | exact (Kd.R_reads' HO159.out).2.2 | (with_reducible refine Kd.C_alloc ?_ _) | (with_reducible refine Kd.C_drewN ?_ _) | (with_reducible refine Kd.C_drew ?_)))
     (case side2 => exact (Kd.R_reads' HO159.out).2.1)
     rintro e w38 ⟨v165, rfl, ho0, hb⟩
     refine ⟨_, rfl, ?_⟩
     have n0_ := Aside0.mk (Kd.R_elder' HO159.out (Kd.R_base ho0) hb)
     have n1_ := Aside0.mk (Kd.R_lower (Kd.R_new' ho0 (Kd.R_lt HO159.out)) (below_size HB.out))
     have n2_ := Aside0.mk (blk_below BK153.out hb)
     have n3_ := Aside0.mk (blk_below BK154.out hb)
     have n4_ := Aside0.mk (blk_below BK168.out hb)
     have n5_ := Aside0.mk (below_step HB.out hb)
     clear HO159 BK153 BK154 BK168 HB
     have HO159 := n0_; have HO166 := n1_; have BK153 := n2_; have BK154 := n3_; have BK168 := n4_; have HB := n5_
     clear n0_ n1_ n2_ n3_ n4_ n5_
     (try clear hb); (try clear hb2); (try clear hk); (try clear hi); (try clear ho0)
     refine hK.out _ _ ⟨(blk_cell BK153.out 0).trans rfl, (blk_cell BK154.out 0).trans rfl, (blk_cell BK154.out 1).trans rfl, (blk_cell BK154.out 2).trans rfl, (blk_cell BK154.out 3).trans rfl⟩ (fun hHeld => ?_)
     clear hK K
     refine norm_ (a' := ?_) ?_ ?_
     rotate_left
     ·show Act.put _ (some 31) _ = _
      simp only [Act.put, List.setIfInBounds_toArray, List.set_cons_zero, List.set_cons_succ, i64_w, i32_w]
      rfl
     refine pure_ (i := 5) (N := some 26) (v := ?_) (a' := ?_) #[true, true, true, true, true, true, false, false, true, false, false] rfl rfl (any_of HT_.out (by kernel_rfl)) (fun _ _ _ h => h) (Or.inl ⟨by rfl, ?_⟩) ?_ ?_
     rotate_left
     ·intro w'
      go_simp
      with_reducible rfl
     rotate_left
     ·simp only [Act.put, List.setIfInBounds_toArray, List.set_cons_zero, List.set_cons_succ, i64_w, i32_w]
      rfl
     refine pure_ (i := 6) (N := some 32) (v := ?_) (a' := ?_) #[true, true, true, true, true, true, true, false, true, false, false] rfl rfl (any_of HT_.out (by kernel_rfl)) (fun _ _ _ h => h) (Or.inl ⟨by rfl, ?_⟩) ?_ ?_
     rotate_left
     ·intro w'
      go_simp
      with_reducible rfl
     rotate_left
     ·simp only [Act.put, List.setIfInBounds_toArray, List.set_cons_zero, List.set_cons_succ, i64_w, i32_w]
      rfl
     refine pure_ (i := 7) (N := some 33) (v := ?_) (a' := ?_) #[true, true, true, true, true, true, true, true, true, false, false] rfl rfl (any_of HT_.out (by kernel_rfl)) (fun _ _ _ h => h) (Or.inl ⟨by rfl, ?_⟩) ?_ ?_
     rotate_left
     ·intro w'
      go_simp
      with_reducible rfl
     rotate_left
     ·simp only [Act.put, List.setIfInBounds_toArray, List.set_cons_zero, List.set_cons_succ, i64_w, i32_w]
      rfl
     exact norm_ (by simp only [putAll, Act.put, List.setIfInBounds_toArray, List.set_cons_zero, List.set_cons_succ]) (hCont (.slice Ao37 t157.length co37, v165, gb168) _ ⟨hHeld, (Kd.R_mono HO159.out (fun _ hk => hk.2)), (Kd.R_mono HO166.out (fun _ hk => hk.2)), BK153.out, BK154.out, BK168.out, GW168.out, GE168.out, NB153_168.out, NB168_153.out, NB154_168.out, NB168_154.out, HB.out⟩)
   rintro ⟨v158, v165, gb168⟩ w39 ⟨hS_, h0_, h1_, h2_, h3_, h4_, h5_, h6_, h7_, h8_, h9_, h10_, h11_⟩
   have n0_ : Aside0 (Kd.R k67 67 w39 w.heap.size (fun k_ => some k_ ≠ (v165 : Value).ownBlock) v158 t157) := ⟨h0_⟩
   have n1_ : Aside0 (Kd.R k67 67 w39 w.heap.size (fun k_ => some k_ ≠ (v158 : Value).ownBlock) v165 t164) := ⟨h1_⟩
   have n2_ : Aside0 (w39.heap[gb153]? = some (.cells #[.slice A0_0 l0_0.length c0_0] 24 (0, 0))) := ⟨h2_⟩
   have n3_ : Aside0 (w39.heap[gb154]? = some (.cells #[.int .i64 a1_0, .string a1_1, .string a1_2, .string a1_3] 37 (0, 0))) := ⟨h3_⟩
   have n4_ : Aside0 (w39.heap[gb168]? = some (.cells #[.slice none 0 0] 29 (0, 0))) := ⟨h4_⟩
   have n5_ : Aside0 (w.heap.size ≤ gb168) := ⟨h5_⟩
   have n6_ : Aside0 (w.heap.size ≤ gb168) := ⟨h6_⟩
   have n7_ : Aside0 (gb153 ≠ gb168) := ⟨h7_⟩
   have n8_ : Aside0 (gb168 ≠ gb153) := ⟨h8_⟩
   have n9_ : Aside0 (gb154 ≠ gb168) := ⟨h9_⟩
   have n10_ : Aside0 (gb168 ≠ gb154) := ⟨h10_⟩
   have n11_ : Aside0 (Below w.heap.size w w39) := ⟨h11_⟩
   clear BK153 BK154 HB h0_ h1_ h2_ h3_ h4_ h5_ h6_ h7_ h8_ h9_ h10_ h11_
   have HO159 := n0_; have HO166 := n1_; have BK153 := n2_; have BK154 := n3_; have BK168 := n4_; have GW168 := n5_; have GE168 := n6_; have NB153_168 := n7_; have NB168_153 := n8_; have NB154_168 := n9_; have NB168_154 := n10_; have HB := n11_
   clear n0_ n1_ n2_ n3_ n4_ n5_ n6_ n7_ n8_ n9_ n10_ n11_
   have hHeld : w39.cell? ⟨gb153, 0, none⟩ = some (.slice A0_0 l0_0.length c0_0) ∧ w39.cell? ⟨gb154, 0, none⟩ = some (.int .i64 a1_0) ∧ w39.cell? ⟨gb154, 1, none⟩ = some (.string a1_1) ∧ w39.cell? ⟨gb154, 2, none⟩ = some (.string a1_2) ∧ w39.cell? ⟨gb154, 3, none⟩ = some (.string a1_3) := hS_
   obtain ⟨Ao40, co40, eo40⟩ := Kd.R_slice HO166.out
   (first | subst eo40 | (injection eo40 with f1_ f2_ f3_; have f4_ := f1_.symm; have f5_ := f3_.symm; clear f1_ f2_ f3_; subst f4_; subst f5_))
   refine norm_ (a' := ?_) ?_ ?_
   rotate_left
   ·simp only [putAll, Act.put, List.setIfInBounds_toArray, List.set_cons_zero, List.set_cons_succ]
    rfl
   refine one_ (i := 9) (N := none) #[true, true, true, true, true, true, true, true, true, true, false] rfl rfl (one_of HT_.out (by kernel_rfl)) (by decide) (fun K hK => ?_)
   have hs41 : w39.cell? ⟨gb168, 0, none⟩ = some (.slice none 0 0) := (blk_cell BK168.out 0).trans rfl
   have hfs41 := blk_frozen BK168.out 0
   have hns41_0 := NB153_168.out; have hns41_1 := NB154_168.out; have hms41_0 := NB168_153.out; have hms41_1 := NB168_154.out
   refine skip_ (w1 := ?_) (by rfl) rfl ?_ ?_
   rotate_left
   ·go_simp
    rfl
   refine hK.out _ _ ⟨((cell_far (p := ⟨gb168, _, none⟩) NB153_168.out _).trans (hHeld.1)), ((cell_far (p := ⟨gb168, _, none⟩) NB154_168.out _).trans (hHeld.2.1)), ((cell_far (p := ⟨gb168, _, none⟩) NB154_168.out _).trans (hHeld.2.2.1)), ((cell_far (p := ⟨gb168, _, none⟩) NB154_168.out _).trans (hHeld.2.2.2.1)), ((cell_far (p := ⟨gb168, _, none⟩) NB154_168.out _).trans (hHeld.2.2.2.2))⟩ (fun hHeld => ?_)
   clear hK K
   refine pure_ (i := 10) (N := some 7) (v := ?_) (a' := ?_) #[true, true, true, true, true, true, true, true, true, true, true] rfl rfl (any_of HT_.out (by kernel_rfl)) (fun _ _ _ h => h) (Or.inl ⟨by rfl, ?_⟩) ?_ ?_
   rotate_left
   ·intro w'
    go_simp
    with_reducible rfl
   rotate_left
   ·simp only [Act.put, List.setIfInBounds_toArray, List.set_cons_zero, List.set_cons_succ, i64_w, i32_w]
    rfl
   refine done_ (done_of HT_.out (by kernel_rfl)) ?_
   have hnb42 := NB153_168.out; have hnc42 := NB168_153.out
   have hcz43_0 : w39.cell? ⟨gb153, 0, none⟩ = some (.slice A0_0 l0_0.length c0_0) := (blk_cell BK153.out 0).trans rfl
   have hfz43_0 := blk_frozen BK153.out 0
   try go_wp2_with (first | ((with_reducible refine gate_callee (f := 14) rfl ?_); refine goesL_ (some 35) rfl rfl Try.func14 (by kernel_rfl) rfl #[.agg #[.slice A0_0 l0_0.length c0_0]] rfl (by (try simp only [List.map_toArray, List.map_cons, List.map_nil]); first | done | rfl | (simp only [List.length_drop, List.length_take]; rfl)) ?_; (with_reducible refine (laws_toDisk.calls k _ _ l0_0 t169 _ ?side1 ?side2 A22.out).mono ?_); (case side1 => exact Kd.C_below HR0_0.out (by repeat (first | (with_reducible first | exact HB.out | apply below_alloc | apply pw_below_drewN | apply below_drew1 | refine below_set ?_ GE153.out | refine below_set ?_ GE154.out | refine below_set ?_ GE168.out) | exact HB.out))); (case side2 => exact HC0_0.out); rintro e w44 ⟨v170, rfl, ho0, hb⟩; refine ⟨_, rfl, ?_⟩; have n0_ := Aside0.mk (Kd.R_elder' (by (with_reducible repeat (first | apply Kd.R_alloc | apply Kd.R_drewN | apply Kd.R_drew)); exact (Kd.R_mono (Kd.R_far (p := ⟨gb168, 0, none⟩) (Kd.R_types HO159.out BK168.out (by decide)) (fun _ hk => hk.2) (.slice Ao40 t164.length co40)) (fun _ h_ => h_.1))) (Kd.R_base ho0) hb); have n1_ := Aside0.mk (Kd.R_elder' (by (with_reducible repeat (first | apply Kd.R_alloc | apply Kd.R_drewN | apply Kd.R_drew)); exact (Kd.R_mono (Kd.R_far (p := ⟨gb168, 0, none⟩) (Kd.R_types HO166.out BK168.out (by decide)) (fun _ hk => hk.2) (.slice Ao40 t164.length co40)) (fun _ h_ => h_.1))) (Kd.R_base ho0) hb); have n2_ := Aside0.mk (Kd.R_lower (Kd.R_new' (Kd.R_new' ho0 (Kd.R_lt (by (with_reducible repeat (first | apply Kd.R_alloc | apply Kd.R_drewN | apply Kd.R_drew)); exact (Kd.R_mono (Kd.R_far (p := ⟨gb168, 0, none⟩) (Kd.R_types HO159.out BK168.out (by decide)) (fun _ hk => hk.2) (.slice Ao40 t164.length co40)) (fun _ h_ => h_.1))))) (Kd.R_lt (by (with_reducible repeat (first | apply Kd.R_alloc | apply Kd.R_drewN | apply Kd.R_drew)); exact (Kd.R_mono (Kd.R_far (p := ⟨gb168, 0, none⟩) (Kd.R_types HO166.out BK168.out (by decide)) (fun _ hk => hk.2) (.slice Ao40 t164.length co40)) (fun _ h_ => h_.1))))) (below_size (by repeat (first | (with_reducible first | exact HB.out | apply below_alloc | apply pw_below_drewN | apply below_drew1 | refine below_set ?_ GE153.out | refine below_set ?_ GE154.out | refine below_set ?_ GE168.out) | exact HB.out)))); have n3_ := Aside0.mk (blk_below (g := gb153) (o := .cells #[.slice A0_0 l0_0.length c0_0] 24 (0, 0)) (by (with_reducible repeat (first | refine blk_drewN ?_ _ | refine blk_drew ?_ | refine blk_alloc ?_ _)); refine blk_far ?_ NB153_168.out _; (with_reducible repeat (first | refine blk_drewN ?_ _ | refine blk_drew ?_ | refine blk_alloc ?_ _)); exact BK153.out) hb); have n4_ := Aside0.mk (blk_below (g := gb154) (o := .cells #[.int .i64 a1_0, .string a1_1, .string a1_2, .string a1_3] 37 (0, 0)) (by (with_reducible repeat (first | refine blk_drewN ?_ _ | refine blk_drew ?_ | refine blk_alloc ?_ _)); refine blk_far ?_ NB154_168.out _; (with_reducible repeat (first | refine blk_drewN ?_ _ | refine blk_drew ?_ | refine blk_alloc ?_ _)); exact BK154.out) hb); have n5_ := Aside0.mk (blk_below (g := gb168) (o := .cells #[.slice Ao40 t164.length co40] 29 (0, 0)) (by (with_reducible repeat (first | refine blk_drewN ?_ _ | refine blk_drew ?_ | refine blk_alloc ?_ _)); refine blk_put (cs := #[.slice none 0 0]) ?_ 0 _ rfl; (with_reducible repeat (first | refine blk_drewN ?_ _ | refine blk_drew ?_ | refine blk_alloc ?_ _)); exact BK168.out) hb); have n6_ := Aside0.mk (below_step (by repeat (first | (with_reducible first | exact HB.out | apply below_alloc | apply pw_below_drewN | apply below_drew1 | refine below_set ?_ GE153.out | refine below_set ?_ GE154.out | refine below_set ?_ GE168.out) | exact HB.out)) hb); clear HO159; clear HO166; clear BK153; clear BK154; clear BK168; clear HB; have HO159 := n0_; have HO166 := n1_; have HO171 := n2_; have BK153 := n3_; have BK154 := n4_; have BK168 := n5_; have HB := n6_; clear n0_ n1_ n2_ n3_ n4_ n5_ n6_; (try clear hb); (try clear hb2); (try clear hk); (try clear hi); (try clear ho0)) | ((with_reducible refine gate_dst (N := 8) rfl ?_); refine box_event ?hg (N := 8) ?hd (cs := #[.slice none 0 0]) (t := 29) ?hr ?_; (case hd => rfl); (case hg => rfl); (case hr => first | (go_simp; done) | (go_simp; rfl)); intro gb172 hg w45 hbox hb; have n0_ := Aside0.mk (Kd.R_below (by (with_reducible repeat (first | apply Kd.R_alloc | apply Kd.R_drewN | apply Kd.R_drew)); exact HO159.out) hb); have n1_ := Aside0.mk (Kd.R_below (by (with_reducible repeat (first | apply Kd.R_alloc | apply Kd.R_drewN | apply Kd.R_drew)); exact HO166.out) hb); have n2_ := Aside0.mk (Kd.R_below (by (with_reducible repeat (first | apply Kd.R_alloc | apply Kd.R_drewN | apply Kd.R_drew)); exact HO171.out) hb); have n3_ := Aside0.mk (blk_below (g := gb153) (o := .cells #[.slice A0_0 l0_0.length c0_0] 24 (0, 0)) (by (with_reducible repeat (first | refine blk_drewN ?_ _ | refine blk_drew ?_ | refine blk_alloc ?_ _)); exact BK153.out) hb); have n4_ := Aside0.mk (blk_below (g := gb154) (o := .cells #[.int .i64 a1_0, .string a1_1, .string a1_2, .string a1_3] 37 (0, 0)) (by (with_reducible repeat (first | refine blk_drewN ?_ _ | refine blk_drew ?_ | refine blk_alloc ?_ _)); exact BK154.out) hb); have n5_ := Aside0.mk (blk_below (g := gb168) (o := .cells #[.slice Ao40 t164.length co40] 29 (0, 0)) (by (with_reducible repeat (first | refine blk_drewN ?_ _ | refine blk_drew ?_ | refine blk_alloc ?_ _)); exact BK168.out) hb); have n6_ := Aside0.mk (below_step (by repeat (first | (with_reducible first | exact HB.out | apply below_alloc | apply pw_below_drewN | apply below_drew1 | refine below_set ?_ GE153.out | refine below_set ?_ GE154.out | refine below_set ?_ GE168.out) | exact HB.out)) hb); have n7_ := Aside0.mk (hbox); have n8_ := Aside0.mk ((by rw [hg]; exact (below_size (by repeat (first | (with_reducible first | exact HB.out | apply below_alloc | apply pw_below_drewN | apply below_drew1 | refine below_set ?_ GE153.out | refine below_set ?_ GE154.out | refine below_set ?_ GE168.out) | exact HB.out))) : w.heap.size ≤ gb172)); have n9_ := Aside0.mk ((by rw [hg]; exact (below_size (by repeat (first | (with_reducible first | exact HB.out | apply below_alloc | apply pw_below_drewN | apply below_drew1 | refine below_set ?_ GE153.out | refine below_set ?_ GE154.out | refine below_set ?_ GE168.out) | exact HB.out))) : w.heap.size ≤ gb172)); have n10_ := Aside0.mk ((by rw [hg]; exact Nat.ne_of_lt (blk_lt (g := gb153) (o := .cells #[.slice A0_0 l0_0.length c0_0] 24 (0, 0)) (by (with_reducible repeat (first | refine blk_drewN ?_ _ | refine blk_drew ?_ | refine blk_alloc ?_ _)); exact BK153.out)) : gb153 ≠ gb172)); have n11_ := Aside0.mk ((by rw [hg]; exact Nat.ne_of_gt (blk_lt (g := gb153) (o := .cells #[.slice A0_0 l0_0.length c0_0] 24 (0, 0)) (by (with_reducible repeat (first | refine blk_drewN ?_ _ | refine blk_drew ?_ | refine blk_alloc ?_ _)); exact BK153.out)) : gb172 ≠ gb153)); have n12_ := Aside0.mk ((by rw [hg]; exact Nat.ne_of_lt (blk_lt (g := gb154) (o := .cells #[.int .i64 a1_0, .string a1_1, .string a1_2, .string a1_3] 37 (0, 0)) (by (with_reducible repeat (first | refine blk_drewN ?_ _ | refine blk_drew ?_ | refine blk_alloc ?_ _)); exact BK154.out)) : gb154 ≠ gb172)); have n13_ := Aside0.mk ((by rw [hg]; exact Nat.ne_of_gt (blk_lt (g := gb154) (o := .cells #[.int .i64 a1_0, .string a1_1, .string a1_2, .string a1_3] 37 (0, 0)) (by (with_reducible repeat (first | refine blk_drewN ?_ _ | refine blk_drew ?_ | refine blk_alloc ?_ _)); exact BK154.out)) : gb172 ≠ gb154)); have n14_ := Aside0.mk ((by rw [hg]; exact Nat.ne_of_lt (blk_lt (g := gb168) (o := .cells #[.slice Ao40 t164.length co40] 29 (0, 0)) (by (with_reducible repeat (first | refine blk_drewN ?_ _ | refine blk_drew ?_ | refine blk_alloc ?_ _)); exact BK168.out)) : gb168 ≠ gb172)); have n15_ := Aside0.mk ((by rw [hg]; exact Nat.ne_of_gt (blk_lt (g := gb168) (o := .cells #[.slice Ao40 t164.length co40] 29 (0, 0)) (by (with_reducible repeat (first | refine blk_drewN ?_ _ | refine blk_drew ?_ | refine blk_alloc ?_ _)); exact BK168.out)) : gb172 ≠ gb168)); clear HO159; clear HO166; clear HO171; clear BK153; clear BK154; clear BK168; clear HB; have HO159 := n0_; have HO166 := n1_; have HO171 := n2_; have BK153 := n3_; have BK154 := n4_; have BK168 := n5_; have HB := n6_; have BK172 := n7_; have GW172 := n8_; have GE172 := n9_; have NB153_172 := n10_; have NB172_153 := n11_; have NB154_172 := n12_; have NB172_154 := n13_; have NB168_172 := n14_; have NB172_168 := n15_; clear n0_ n1_ n2_ n3_ n4_ n5_ n6_ n7_ n8_ n9_ n10_ n11_ n12_ n13_ n14_ n15_; clear hb hbox hg; obtain ⟨Ao46, co46, eo46⟩ := Kd.R_slice HO171.out; subst eo46; have hnb47 := NB172_153.out; have hnc47 := NB153_172.out; have hnb48 := NB172_154.out; have hnc48 := NB154_172.out; have hnb49 := NB172_168.out; have hnc49 := NB168_172.out; have hcz50_0 : w45.cell? ⟨gb172, 0, none⟩ = some (.slice none 0 0) := (blk_cell BK172.out 0).trans rfl; have hfz50_0 := blk_frozen BK172.out 0))
   have n0_ : Aside0 (Kd.R k67 67 (w45.setCell ⟨gb172, 0, none⟩ (.slice Ao46 t169.length co46)) w.heap.size (fun k_ => some k_ ≠ (.slice Ao40 t164.length co40 : Value).ownBlock ∧ some k_ ≠ (.slice Ao46 t169.length co46 : Value).ownBlock) v158 t157) := ⟨by (with_reducible repeat (first | apply Kd.R_alloc | apply Kd.R_drewN | apply Kd.R_drew)); exact Kd.R_mono (Kd.R_far (p := ⟨gb172, 0, none⟩) (Kd.R_types HO159.out BK172.out (by decide)) (fun _ hk => hk.2) (.slice Ao46 t169.length co46)) (fun _ hk => ⟨hk.1.1, hk.1.2⟩)⟩
   have n1_ : Aside0 (Kd.R k67 67 (w45.setCell ⟨gb172, 0, none⟩ (.slice Ao46 t169.length co46)) w.heap.size (fun k_ => some k_ ≠ (v158 : Value).ownBlock ∧ some k_ ≠ (.slice Ao46 t169.length co46 : Value).ownBlock) (.slice Ao40 t164.length co40) t164) := ⟨by (with_reducible repeat (first | apply Kd.R_alloc | apply Kd.R_drewN | apply Kd.R_drew)); exact Kd.R_mono (Kd.R_far (p := ⟨gb172, 0, none⟩) (Kd.R_types HO166.out BK172.out (by decide)) (fun _ hk => hk.2) (.slice Ao46 t169.length co46)) (fun _ hk => ⟨hk.1.1, hk.1.2⟩)⟩
   have n2_ : Aside0 (Kd.R k67 67 (w45.setCell ⟨gb172, 0, none⟩ (.slice Ao46 t169.length co46)) w.heap.size (fun k_ => some k_ ≠ (v158 : Value).ownBlock ∧ some k_ ≠ (.slice Ao40 t164.length co40 : Value).ownBlock) (.slice Ao46 t169.length co46) t169) := ⟨by (with_reducible repeat (first | apply Kd.R_alloc | apply Kd.R_drewN | apply Kd.R_drew)); exact Kd.R_mono (Kd.R_far (p := ⟨gb172, 0, none⟩) (Kd.R_types HO171.out BK172.out (by decide)) (fun _ hk => hk.2) (.slice Ao46 t169.length co46)) (fun _ hk => ⟨hk.1.1.2, hk.1.2⟩)⟩
   have n3_ : Aside0 ((w45.setCell ⟨gb172, 0, none⟩ (.slice Ao46 t169.length co46)).heap[gb153]? = some (.cells #[.slice A0_0 l0_0.length c0_0] 24 (0, 0))) := ⟨by (with_reducible repeat (first | refine blk_drewN ?_ _ | refine blk_drew ?_ | refine blk_alloc ?_ _)); refine blk_far ?_ NB153_172.out _; (with_reducible repeat (first | refine blk_drewN ?_ _ | refine blk_drew ?_ | refine blk_alloc ?_ _)); exact BK153.out⟩
   have n4_ : Aside0 ((w45.setCell ⟨gb172, 0, none⟩ (.slice Ao46 t169.length co46)).heap[gb154]? = some (.cells #[.int .i64 a1_0, .string a1_1, .string a1_2, .string a1_3] 37 (0, 0))) := ⟨by (with_reducible repeat (first | refine blk_drewN ?_ _ | refine blk_drew ?_ | refine blk_alloc ?_ _)); refine blk_far ?_ NB154_172.out _; (with_reducible repeat (first | refine blk_drewN ?_ _ | refine blk_drew ?_ | refine blk_alloc ?_ _)); exact BK154.out⟩
   have n5_ : Aside0 ((w45.setCell ⟨gb172, 0, none⟩ (.slice Ao46 t169.length co46)).heap[gb168]? = some (.cells #[.slice Ao40 t164.length co40] 29 (0, 0))) := ⟨by (with_reducible repeat (first | refine blk_drewN ?_ _ | refine blk_drew ?_ | refine blk_alloc ?_ _)); refine blk_far ?_ NB168_172.out _; (with_reducible repeat (first | refine blk_drewN ?_ _ | refine blk_drew ?_ | refine blk_alloc ?_ _)); exact BK168.out⟩
   have n6_ : Aside0 ((w45.setCell ⟨gb172, 0, none⟩ (.slice Ao46 t169.length co46)).heap[gb172]? = some (.cells #[.slice Ao46 t169.length co46] 29 (0, 0))) := ⟨by (with_reducible repeat (first | refine blk_drewN ?_ _ | refine blk_drew ?_ | refine blk_alloc ?_ _)); refine blk_put (cs := #[.slice none 0 0]) ?_ 0 _ rfl; (with_reducible repeat (first | refine blk_drewN ?_ _ | refine blk_drew ?_ | refine blk_alloc ?_ _)); exact BK172.out⟩
   have n7_ : Aside0 (Below w.heap.size w (w45.setCell ⟨gb172, 0, none⟩ (.slice Ao46 t169.length co46))) := ⟨by repeat (first | (with_reducible first | exact HB.out | apply below_alloc | apply pw_below_drewN | apply below_drew1 | refine below_set ?_ GE153.out | refine below_set ?_ GE154.out | refine below_set ?_ GE168.out | refine below_set ?_ GE172.out) | exact HB.out)⟩
   (try clear HO159); (try clear HO166); (try clear HO171); (try clear BK153); (try clear BK154); (try clear BK168); (try clear BK172); (try clear HB)
   generalize (w45.setCell ⟨gb172, 0, none⟩ (.slice Ao46 t169.length co46)) = w51 at n0_ n1_ n2_ n3_ n4_ n5_ n6_ n7_ ⊢
   have HO159 := n0_; have HO166 := n1_; have HO171 := n2_; have BK153 := n3_; have BK154 := n4_; have BK168 := n5_; have BK172 := n6_; have HB := n7_
   clear n0_ n1_ n2_ n3_ n4_ n5_ n6_ n7_
   have n0_ := Aside0.mk (Kd.R_drew HO159.out)
   have n1_ := Aside0.mk (Kd.R_drew HO166.out)
   have n2_ := Aside0.mk (Kd.R_drew HO171.out)
   have n3_ := Aside0.mk (blk_drew BK153.out)
   have n4_ := Aside0.mk (blk_drew BK154.out)
   have n5_ := Aside0.mk (blk_drew BK168.out)
   have n6_ := Aside0.mk (blk_drew BK172.out)
   have n7_ := Aside0.mk (below_drew1 HB.out)
   clear HO159 HO166 HO171 BK153 BK154 BK168 BK172 HB
   have HO159 := n0_; have HO166 := n1_; have HO171 := n2_; have BK153 := n3_; have BK154 := n4_; have BK168 := n5_; have BK172 := n6_; have HB := n7_
   clear n0_ n1_ n2_ n3_ n4_ n5_ n6_ n7_
   refine start_ (n := 10) (S := fun w' => w'.cell? ⟨gb172, 0, none⟩ = some (.slice Ao46 t169.length co46) ∧ w'.cell? ⟨gb154, 0, none⟩ = some (.int .i64 a1_0) ∧ w'.cell? ⟨gb154, 1, none⟩ = some (.string a1_1) ∧ w'.cell? ⟨gb154, 2, none⟩ = some (.string a1_2) ∧ w'.cell? ⟨gb154, 3, none⟩ = some (.string a1_3)) (ds := []) #[false, false, false, false, false, false, false, false, false, false] (by kernel_rfl) rfl rfl ⟨(blk_cell BK172.out 0).trans rfl, (blk_cell BK154.out 0).trans rfl, (blk_cell BK154.out 1).trans rfl, (blk_cell BK154.out 2).trans rfl, (blk_cell BK154.out 3).trans rfl⟩ (fun hHeld => ?_); refine with_tabW laws_FnExactDoAct.tab10 laws_FnExactDoAct.bits10 (fun HT_ HW_ => ?_)
   generalize w51.drew = w52 at HO159 HO166 HO171 BK153 BK154 BK168 BK172 HB hHeld ⊢
   refine take_ (i := 0) (N := some 37) (v := ?_) (a' := ?_) #[true, false, false, false, false, false, false, false, false, false] rfl rfl (take_ofW HT_.out HW_.out (by kernel_rfl)) (fun _ _ _ h => h) (Or.inl ⟨by rfl, ?_⟩) hHeld ?_ ?_
   rotate_left
   ·rintro w' ⟨s0, s1, s2, s3, s4⟩
    go_simp
    with_reducible rfl
   rotate_left
   ·simp only [Act.put, List.setIfInBounds_toArray, List.set_cons_zero, List.set_cons_succ, i64_w, i32_w]
    rfl
   refine take_ (i := 1) (N := some 38) (v := ?_) (a' := ?_) #[true, true, false, false, false, false, false, false, false, false] rfl rfl (take_ofW HT_.out HW_.out (by kernel_rfl)) (fun _ _ _ h => h) (Or.inl ⟨by rfl, ?_⟩) hHeld ?_ ?_
   rotate_left
   ·rintro w' ⟨s0, s1, s2, s3, s4⟩
    go_simp
    with_reducible rfl
   rotate_left
   ·simp only [Act.put, List.setIfInBounds_toArray, List.set_cons_zero, List.set_cons_succ, i64_w, i32_w]
    rfl
   refine join_ (σ := Value × Nat) 2 #[true, true, true, true, true, true, true, true, false, false] (fun s_ => [(39, .agg #[.int .i64 t173, .string t174, .string t175, .string t176]), (40, .tuple #[.agg #[s_.1], .bool t180]), (9, .pointer (some ⟨s_.2, 0, none⟩)), (36, .tuple #[.agg #[s_.1], .bool t180]), (41, .agg #[s_.1]), (42, .bool t180)]) (fun s_ w' => (w'.cell? ⟨gb172, 0, none⟩ = some (.slice Ao46 t169.length co46) ∧ w'.cell? ⟨gb154, 0, none⟩ = some (.int .i64 a1_0) ∧ w'.cell? ⟨gb154, 1, none⟩ = some (.string a1_1) ∧ w'.cell? ⟨gb154, 2, none⟩ = some (.string a1_2) ∧ w'.cell? ⟨gb154, 3, none⟩ = some (.string a1_3)) ∧ (Kd.R k67 67 w' w.heap.size (fun k_ => some k_ ≠ (.slice Ao40 t164.length co40 : Value).ownBlock ∧ some k_ ≠ (.slice Ao46 t169.length co46 : Value).ownBlock ∧ some k_ ≠ (s_.1 : Value).ownBlock) v158 t157) ∧ (Kd.R k67 67 w' w.heap.size (fun k_ => some k_ ≠ (v158 : Value).ownBlock ∧ some k_ ≠ (.slice Ao46 t169.length co46 : Value).ownBlock ∧ some k_ ≠ (s_.1 : Value).ownBlock) (.slice Ao40 t164.length co40) t164) ∧ (Kd.R k67 67 w' w.heap.size (fun k_ => some k_ ≠ (v158 : Value).ownBlock ∧ some k_ ≠ (.slice Ao40 t164.length co40 : Value).ownBlock ∧ some k_ ≠ (s_.1 : Value).ownBlock) (.slice Ao46 t169.length co46) t169) ∧ (Kd.R k67 67 w' w.heap.size (fun k_ => some k_ ≠ (v158 : Value).ownBlock ∧ some k_ ≠ (.slice Ao40 t164.length co40 : Value).ownBlock ∧ some k_ ≠ (.slice Ao46 t169.length co46 : Value).ownBlock) s_.1 t177) ∧ (w'.heap[gb153]? = some (.cells #[.slice A0_0 l0_0.length c0_0] 24 (0, 0))) ∧ (w'.heap[gb154]? = some (.cells #[.int .i64 a1_0, .string a1_1, .string a1_2, .string a1_3] 37 (0, 0))) ∧ (w'.heap[gb168]? = some (.cells #[.slice Ao40 t164.length co40] 29 (0, 0))) ∧ (w'.heap[gb172]? = some (.cells #[.slice Ao46 t169.length co46] 29 (0, 0))) ∧ (w'.heap[s_.2]? = some (.cells #[.slice none 0 0] 29 (0, 0))) ∧ (w.heap.size ≤ s_.2) ∧ (w.heap.size ≤ s_.2) ∧ (gb153 ≠ s_.2) ∧ (s_.2 ≠ gb153) ∧ (gb154 ≠ s_.2) ∧ (s_.2 ≠ gb154) ∧ (gb168 ≠ s_.2) ∧ (s_.2 ≠ gb168) ∧ (gb172 ≠ s_.2) ∧ (s_.2 ≠ gb172) ∧ (Below w.heap.size w w')) ?_ ?_
   rotate_left
   ·intro hCont
    refine two_ (i := 2) (j := 7) (Ni := some 39) (Nj := some 9) #[true, true, true, false, false, false, false, false, false, false] #[true, true, false, false, false, false, false, true, false, false] rfl rfl rfl rfl (two_of HT_.out (by kernel_rfl)) (by decide) (by decide) (fun K hK => ?_) (fun K hK => ?_)
    ·skip
     refine goes_ Try.func23 (by kernel_rfl) rfl #[.agg #[.int .i64 a1_0, .string a1_1, .string a1_2, .string a1_3]] (by rfl) rfl rfl (by (try simp only [List.map_toArray, List.map_cons, List.map_nil]); first | done | rfl | (simp only [List.length_drop, List.length_take]; rfl)) ?_
     with_reducible refine (laws_toAct.calls a1_0 a1_1 a1_2 a1_3 t173 t174 t175 t176 _ A23.out).mono ?_
     rintro e w53 ⟨rfl, hb⟩
     refine ⟨_, rfl, ?_⟩
     have n0_ := Aside0.mk (Kd.R_below HO159.out hb)
     have n1_ := Aside0.mk (Kd.R_below HO166.out hb)
     have n2_ := Aside0.mk (Kd.R_below HO171.out hb)
     have n3_ := Aside0.mk (blk_below BK153.out hb)
     have n4_ := Aside0.mk (blk_below BK154.out hb)
     have n5_ := Aside0.mk (blk_below BK168.out hb)
     have n6_ := Aside0.mk (blk_below BK172.out hb)
     have n7_ := Aside0.mk (below_step HB.out hb)
     clear HO159 HO166 HO171 BK153 BK154 BK168 BK172 HB
     have HO159 := n0_; have HO166 := n1_; have HO171 := n2_; have BK153 := n3_; have BK154 := n4_; have BK168 := n5_; have BK172 := n6_; have HB := n7_
     clear n0_ n1_ n2_ n3_ n4_ n5_ n6_ n7_
     (try clear hb); (try clear hb2); (try clear hk); (try clear hi)
     refine hK.out _ _ ⟨(blk_cell BK172.out 0).trans rfl, (blk_cell BK154.out 0).trans rfl, (blk_cell BK154.out 1).trans rfl, (blk_cell BK154.out 2).trans rfl, (blk_cell BK154.out 3).trans rfl⟩ (fun hHeld => ?_)
     clear hK K
     refine norm_ (a' := ?_) ?_ ?_
     rotate_left
     ·show Act.put _ (some 39) _ = _
      simp only [Act.put, List.setIfInBounds_toArray, List.set_cons_zero, List.set_cons_succ, i64_w, i32_w]
      rfl
     refine two_ (i := 3) (j := 7) (Ni := some 40) (Nj := some 9) #[true, true, true, true, false, false, false, false, false, false] #[true, true, true, false, false, false, false, true, false, false] rfl rfl rfl rfl (two_of HT_.out (by kernel_rfl)) (by decide) (by decide) (fun K hK => ?_) (fun K hK => ?_)
     ·skip
      refine goes_ Try.func24 (by kernel_rfl) rfl #[.agg #[.slice Ao46 t169.length co46], .agg #[.int .i64 t173, .string t174, .string t175, .string t176]] (by rfl) rfl rfl (by (try simp only [List.map_toArray, List.map_cons, List.map_nil]); first | done | rfl | (simp only [List.length_drop, List.length_take]; rfl)) ?_
      with_reducible refine (impl_DoAct.calls _ _ t169 t173 t174 t175 t176 t177 t180 _ ?side1 ?side2 A24.out).mono ?_
      (case side1 => repeat (first | exact (Kd.R_reads' HO171.out).2.2 | (with_reducible refine Kd.C_alloc ?_ _) | (with_reducible refine Kd.C_drewN ?_ _) | (with_reducible refine Kd.C_drew ?_)))
      (case side2 => exact (Kd.R_reads' HO171.out).2.1)
      rintro e w54 ⟨v178, rfl, ho0, hb⟩
      refine ⟨_, rfl, ?_⟩
      have n0_ := Aside0.mk (Kd.R_elder' HO159.out (Kd.R_base ho0) hb)
      have n1_ := Aside0.mk (Kd.R_elder' HO166.out (Kd.R_base ho0) hb)
      have n2_ := Aside0.mk (Kd.R_elder' HO171.out (Kd.R_base ho0) hb)
      have n3_ := Aside0.mk (Kd.R_lower (Kd.R_new' (Kd.R_new' (Kd.R_new' ho0 (Kd.R_lt HO159.out)) (Kd.R_lt HO166.out)) (Kd.R_lt HO171.out)) (below_size HB.out))
      have n4_ := Aside0.mk (blk_below BK153.out hb)
      have n5_ := Aside0.mk (blk_below BK154.out hb)
      have n6_ := Aside0.mk (blk_below BK168.out hb)
      have n7_ := Aside0.mk (blk_below BK172.out hb)
      have n8_ := Aside0.mk (below_step HB.out hb)
      clear HO159 HO166 HO171 BK153 BK154 BK168 BK172 HB
      have HO159 := n0_; have HO166 := n1_; have HO171 := n2_; have HO179 := n3_; have BK153 := n4_; have BK154 := n5_; have BK168 := n6_; have BK172 := n7_; have HB := n8_
      clear n0_ n1_ n2_ n3_ n4_ n5_ n6_ n7_ n8_
      (try clear hb); (try clear hb2); (try clear hk); (try clear hi); (try clear ho0)
      refine hK.out _ _ ⟨(blk_cell BK172.out 0).trans rfl, (blk_cell BK154.out 0).trans rfl, (blk_cell BK154.out 1).trans rfl, (blk_cell BK154.out 2).trans rfl, (blk_cell BK154.out 3).trans rfl⟩ (fun hHeld => ?_)
      clear hK K
      refine norm_ (a' := ?_) ?_ ?_
      rotate_left
      ·show Act.put _ (some 40) _ = _
       simp only [Act.put, List.setIfInBounds_toArray, List.set_cons_zero, List.set_cons_succ, i64_w, i32_w]
       rfl
      refine pure_ (i := 4) (N := some 36) (v := ?_) (a' := ?_) #[true, true, true, true, true, false, false, false, false, false] rfl rfl (any_of HT_.out (by kernel_rfl)) (fun _ _ _ h => h) (Or.inl ⟨by rfl, ?_⟩) ?_ ?_
      rotate_left
      ·intro w'
       go_simp
       with_reducible rfl
      rotate_left
      ·simp only [Act.put, List.setIfInBounds_toArray, List.set_cons_zero, List.set_cons_succ, i64_w, i32_w]
       rfl
      refine pure_ (i := 5) (N := some 41) (v := ?_) (a' := ?_) #[true, true, true, true, true, true, false, false, false, false] rfl rfl (any_of HT_.out (by kernel_rfl)) (fun _ _ _ h => h) (Or.inl ⟨by rfl, ?_⟩) ?_ ?_
      rotate_left
      ·intro w'
       go_simp
       with_reducible rfl
      rotate_left
      ·simp only [Act.put, List.setIfInBounds_toArray, List.set_cons_zero, List.set_cons_succ, i64_w, i32_w]
       rfl
      refine pure_ (i := 6) (N := some 42) (v := ?_) (a' := ?_) #[true, true, true, true, true, true, true, false, false, false] rfl rfl (any_of HT_.out (by kernel_rfl)) (fun _ _ _ h => h) (Or.inl ⟨by rfl, ?_⟩) ?_ ?_
      rotate_left
      ·intro w'
       go_simp
       with_reducible rfl
      rotate_left
      ·simp only [Act.put, List.setIfInBounds_toArray, List.set_cons_zero, List.set_cons_succ, i64_w, i32_w]
       rfl
      refine one_ (i := 7) (N := some 9) #[true, true, true, true, true, true, true, true, false, false] rfl rfl (one_of HT_.out (by kernel_rfl)) (by decide) (fun K hK => ?_)
      refine box_step ?hg (N := 9) ?hd (cs := #[.slice none 0 0]) (t := 29) ?hr ?_; (case hd => rfl); (case hg => rfl); (case hr => first | (go_simp; done) | (go_simp; rfl))
      intro gb181 hg w55 hbox hb
      have n0_ := Aside0.mk (Kd.R_below HO159.out hb)
      have n1_ := Aside0.mk (Kd.R_below HO166.out hb)
      have n2_ := Aside0.mk (Kd.R_below HO171.out hb)
      have n3_ := Aside0.mk (Kd.R_below HO179.out hb)
      have n4_ := Aside0.mk (blk_below BK153.out hb)
      have n5_ := Aside0.mk (blk_below BK154.out hb)
      have n6_ := Aside0.mk (blk_below BK168.out hb)
      have n7_ := Aside0.mk (blk_below BK172.out hb)
      have n8_ := Aside0.mk (below_step HB.out hb)
      have n9_ := Aside0.mk (hbox)
      have n10_ := Aside0.mk ((by rw [hg]; exact (below_size HB.out) : w.heap.size ≤ gb181))
      have n11_ := Aside0.mk ((by rw [hg]; exact (below_size HB.out) : w.heap.size ≤ gb181))
      have n12_ := Aside0.mk ((by rw [hg]; exact Nat.ne_of_lt (blk_lt BK153.out) : gb153 ≠ gb181))
      have n13_ := Aside0.mk ((by rw [hg]; exact Nat.ne_of_gt (blk_lt BK153.out) : gb181 ≠ gb153))
      have n14_ := Aside0.mk ((by rw [hg]; exact Nat.ne_of_lt (blk_lt BK154.out) : gb154 ≠ gb181))
      have n15_ := Aside0.mk ((by rw [hg]; exact Nat.ne_of_gt (blk_lt BK154.out) : gb181 ≠ gb154))
      have n16_ := Aside0.mk ((by rw [hg]; exact Nat.ne_of_lt (blk_lt BK168.out) : gb168 ≠ gb181))
      have n17_ := Aside0.mk ((by rw [hg]; exact Nat.ne_of_gt (blk_lt BK168.out) : gb181 ≠ gb168))
      have n18_ := Aside0.mk ((by rw [hg]; exact Nat.ne_of_lt (blk_lt BK172.out) : gb172 ≠ gb181))
      have n19_ := Aside0.mk ((by rw [hg]; exact Nat.ne_of_gt (blk_lt BK172.out) : gb181 ≠ gb172))
      clear HO159 HO166 HO171 HO179 BK153 BK154 BK168 BK172 HB
      have HO159 := n0_; have HO166 := n1_; have HO171 := n2_; have HO179 := n3_; have BK153 := n4_; have BK154 := n5_; have BK168 := n6_; have BK172 := n7_; have HB := n8_; have BK181 := n9_; have GW181 := n10_; have GE181 := n11_; have NB153_181 := n12_; have NB181_153 := n13_; have NB154_181 := n14_; have NB181_154 := n15_; have NB168_181 := n16_; have NB181_168 := n17_; have NB172_181 := n18_; have NB181_172 := n19_
      clear n0_ n1_ n2_ n3_ n4_ n5_ n6_ n7_ n8_ n9_ n10_ n11_ n12_ n13_ n14_ n15_ n16_ n17_ n18_ n19_ hb hbox hg
      refine hK.out _ _ ⟨(blk_cell BK172.out 0).trans rfl, (blk_cell BK154.out 0).trans rfl, (blk_cell BK154.out 1).trans rfl, (blk_cell BK154.out 2).trans rfl, (blk_cell BK154.out 3).trans rfl⟩ (fun hHeld => ?_)
      clear hK K
      refine norm_ (a' := ?_) ?_ ?_
      rotate_left
      ·show Act.put _ (some 9) _ = _
       simp only [Act.put, List.setIfInBounds_toArray, List.set_cons_zero, List.set_cons_succ, i64_w, i32_w]
       rfl
      exact norm_ (by simp only [putAll, Act.put, List.setIfInBounds_toArray, List.set_cons_zero, List.set_cons_succ]) (hCont (v178, gb181) _ ⟨hHeld, (Kd.R_mono HO159.out (fun _ hk => ⟨hk.1.1, ⟨hk.1.2, hk.2⟩⟩)), (Kd.R_mono HO166.out (fun _ hk => ⟨hk.1.1, ⟨hk.1.2, hk.2⟩⟩)), (Kd.R_mono HO171.out (fun _ hk => ⟨hk.1.1, ⟨hk.1.2, hk.2⟩⟩)), (Kd.R_mono HO179.out (fun _ hk => ⟨hk.1.1.2, ⟨hk.1.2, hk.2⟩⟩)), BK153.out, BK154.out, BK168.out, BK172.out, BK181.out, GW181.out, GE181.out, NB153_181.out, NB181_153.out, NB154_181.out, NB181_154.out, NB168_181.out, NB181_168.out, NB172_181.out, NB181_172.out, HB.out⟩)
     ·skip
      refine box_step ?hg (N := 9) ?hd (cs := #[.slice none 0 0]) (t := 29) ?hr ?_; (case hd => rfl); (case hg => rfl); (case hr => first | (go_simp; done) | (go_simp; rfl))
      intro gb181 hg w54 hbox hb
      have n0_ := Aside0.mk (Kd.R_below HO159.out hb)
      have n1_ := Aside0.mk (Kd.R_below HO166.out hb)
      have n2_ := Aside0.mk (Kd.R_below HO171.out hb)
      have n3_ := Aside0.mk (blk_below BK153.out hb)
      have n4_ := Aside0.mk (blk_below BK154.out hb)
      have n5_ := Aside0.mk (blk_below BK168.out hb)
      have n6_ := Aside0.mk (blk_below BK172.out hb)
      have n7_ := Aside0.mk (below_step HB.out hb)
      have n8_ := Aside0.mk (hbox)
      have n9_ := Aside0.mk ((by rw [hg]; exact (below_size HB.out) : w.heap.size ≤ gb181))
      have n10_ := Aside0.mk ((by rw [hg]; exact (below_size HB.out) : w.heap.size ≤ gb181))
      have n11_ := Aside0.mk ((by rw [hg]; exact Nat.ne_of_lt (blk_lt BK153.out) : gb153 ≠ gb181))
      have n12_ := Aside0.mk ((by rw [hg]; exact Nat.ne_of_gt (blk_lt BK153.out) : gb181 ≠ gb153))
      have n13_ := Aside0.mk ((by rw [hg]; exact Nat.ne_of_lt (blk_lt BK154.out) : gb154 ≠ gb181))
      have n14_ := Aside0.mk ((by rw [hg]; exact Nat.ne_of_gt (blk_lt BK154.out) : gb181 ≠ gb154))
      have n15_ := Aside0.mk ((by rw [hg]; exact Nat.ne_of_lt (blk_lt BK168.out) : gb168 ≠ gb181))
      have n16_ := Aside0.mk ((by rw [hg]; exact Nat.ne_of_gt (blk_lt BK168.out) : gb181 ≠ gb168))
      have n17_ := Aside0.mk ((by rw [hg]; exact Nat.ne_of_lt (blk_lt BK172.out) : gb172 ≠ gb181))
      have n18_ := Aside0.mk ((by rw [hg]; exact Nat.ne_of_gt (blk_lt BK172.out) : gb181 ≠ gb172))
      clear HO159 HO166 HO171 BK153 BK154 BK168 BK172 HB
      have HO159 := n0_; have HO166 := n1_; have HO171 := n2_; have BK153 := n3_; have BK154 := n4_; have BK168 := n5_; have BK172 := n6_; have HB := n7_; have BK181 := n8_; have GW181 := n9_; have GE181 := n10_; have NB153_181 := n11_; have NB181_153 := n12_; have NB154_181 := n13_; have NB181_154 := n14_; have NB168_181 := n15_; have NB181_168 := n16_; have NB172_181 := n17_; have NB181_172 := n18_
      clear n0_ n1_ n2_ n3_ n4_ n5_ n6_ n7_ n8_ n9_ n10_ n11_ n12_ n13_ n14_ n15_ n16_ n17_ n18_ hb hbox hg
      refine hK.out _ _ ⟨(blk_cell BK172.out 0).trans rfl, (blk_cell BK154.out 0).trans rfl, (blk_cell BK154.out 1).trans rfl, (blk_cell BK154.out 2).trans rfl, (blk_cell BK154.out 3).trans rfl⟩ (fun hHeld => ?_)
      clear hK K
      refine norm_ (a' := ?_) ?_ ?_
      rotate_left
      ·show Act.put _ (some 9) _ = _
       simp only [Act.put, List.setIfInBounds_toArray, List.set_cons_zero, List.set_cons_succ, i64_w, i32_w]
       rfl
      refine one_ (i := 3) (N := some 40) #[true, true, true, true, false, false, false, true, false, false] rfl rfl (one_of HT_.out (by kernel_rfl)) (by decide) (fun K hK => ?_)
      refine goes_ Try.func24 (by kernel_rfl) rfl #[.agg #[.slice Ao46 t169.length co46], .agg #[.int .i64 t173, .string t174, .string t175, .string t176]] (by rfl) rfl rfl (by (try simp only [List.map_toArray, List.map_cons, List.map_nil]); first | done | rfl | (simp only [List.length_drop, List.length_take]; rfl)) ?_
      with_reducible refine (impl_DoAct.calls _ _ t169 t173 t174 t175 t176 t177 t180 _ ?side1 ?side2 A24.out).mono ?_
      (case side1 => repeat (first | exact (Kd.R_reads' HO171.out).2.2 | (with_reducible refine Kd.C_alloc ?_ _) | (with_reducible refine Kd.C_drewN ?_ _) | (with_reducible refine Kd.C_drew ?_)))
      (case side2 => exact (Kd.R_reads' HO171.out).2.1)
      rintro e w55 ⟨v178, rfl, ho0, hb⟩
      refine ⟨_, rfl, ?_⟩
      have n0_ := Aside0.mk (Kd.R_elder' HO159.out (Kd.R_base ho0) hb)
      have n1_ := Aside0.mk (Kd.R_elder' HO166.out (Kd.R_base ho0) hb)
      have n2_ := Aside0.mk (Kd.R_elder' HO171.out (Kd.R_base ho0) hb)
      have n3_ := Aside0.mk (Kd.R_lower (Kd.R_new' (Kd.R_new' (Kd.R_new' ho0 (Kd.R_lt HO159.out)) (Kd.R_lt HO166.out)) (Kd.R_lt HO171.out)) (below_size HB.out))
      have n4_ := Aside0.mk (blk_below BK153.out hb)
      have n5_ := Aside0.mk (blk_below BK154.out hb)
      have n6_ := Aside0.mk (blk_below BK168.out hb)
      have n7_ := Aside0.mk (blk_below BK172.out hb)
      have n8_ := Aside0.mk (blk_below BK181.out hb)
      have n9_ := Aside0.mk (below_step HB.out hb)
      clear HO159 HO166 HO171 BK153 BK154 BK168 BK172 BK181 HB
      have HO159 := n0_; have HO166 := n1_; have HO171 := n2_; have HO179 := n3_; have BK153 := n4_; have BK154 := n5_; have BK168 := n6_; have BK172 := n7_; have BK181 := n8_; have HB := n9_
      clear n0_ n1_ n2_ n3_ n4_ n5_ n6_ n7_ n8_ n9_
      (try clear hb); (try clear hb2); (try clear hk); (try clear hi); (try clear ho0)
      refine hK.out _ _ ⟨(blk_cell BK172.out 0).trans rfl, (blk_cell BK154.out 0).trans rfl, (blk_cell BK154.out 1).trans rfl, (blk_cell BK154.out 2).trans rfl, (blk_cell BK154.out 3).trans rfl⟩ (fun hHeld => ?_)
      clear hK K
      refine norm_ (a' := ?_) ?_ ?_
      rotate_left
      ·show Act.put _ (some 40) _ = _
       simp only [Act.put, List.setIfInBounds_toArray, List.set_cons_zero, List.set_cons_succ, i64_w, i32_w]
       rfl
      refine pure_ (i := 4) (N := some 36) (v := ?_) (a' := ?_) #[true, true, true, true, true, false, false, true, false, false] rfl rfl (any_of HT_.out (by kernel_rfl)) (fun _ _ _ h => h) (Or.inl ⟨by rfl, ?_⟩) ?_ ?_
      rotate_left
      ·intro w'
       go_simp
       with_reducible rfl
      rotate_left
      ·simp only [Act.put, List.setIfInBounds_toArray, List.set_cons_zero, List.set_cons_succ, i64_w, i32_w]
       rfl
      refine pure_ (i := 5) (N := some 41) (v := ?_) (a' := ?_) #[true, true, true, true, true, true, false, true, false, false] rfl rfl (any_of HT_.out (by kernel_rfl)) (fun _ _ _ h => h) (Or.inl ⟨by rfl, ?_⟩) ?_ ?_
      rotate_left
      ·intro w'
       go_simp
       with_reducible rfl
      rotate_left
      ·simp only [Act.put, List.setIfInBounds_toArray, List.set_cons_zero, List.set_cons_succ, i64_w, i32_w]
       rfl
      refine pure_ (i := 6) (N := some 42) (v := ?_) (a' := ?_) #[true, true, true, true, true, true, true, true, false, false] rfl rfl (any_of HT_.out (by kernel_rfl)) (fun _ _ _ h => h) (Or.inl ⟨by rfl, ?_⟩) ?_ ?_
      rotate_left
      ·intro w'
       go_simp
       with_reducible rfl
      rotate_left
      ·simp only [Act.put, List.setIfInBounds_toArray, List.set_cons_zero, List.set_cons_succ, i64_w, i32_w]
       rfl
      exact norm_ (by simp only [putAll, Act.put, List.setIfInBounds_toArray, List.set_cons_zero, List.set_cons_succ]) (hCont (v178, gb181) _ ⟨hHeld, (Kd.R_mono HO159.out (fun _ hk => ⟨hk.1.1, ⟨hk.1.2, hk.2⟩⟩)), (Kd.R_mono HO166.out (fun _ hk => ⟨hk.1.1, ⟨hk.1.2, hk.2⟩⟩)), (Kd.R_mono HO171.out (fun _ hk => ⟨hk.1.1, ⟨hk.1.2, hk.2⟩⟩)), (Kd.R_mono HO179.out (fun _ hk => ⟨hk.1.1.2, ⟨hk.1.2, hk.2⟩⟩)), BK153.out, BK154.out, BK168.out, BK172.out, BK181.out, GW181.out, GE181.out, NB153_181.out, NB181_153.out, NB154_181.out, NB181_154.out, NB168_181.out, NB181_168.out, NB172_181.out, NB181_172.out, HB.out⟩)
    ·skip
     refine box_step ?hg (N := 9) ?hd (cs := #[.slice none 0 0]) (t := 29) ?hr ?_; (case hd => rfl); (case hg => rfl); (case hr => first | (go_simp; done) | (go_simp; rfl))
     intro gb181 hg w53 hbox hb
     have n0_ := Aside0.mk (Kd.R_below HO159.out hb)
     have n1_ := Aside0.mk (Kd.R_below HO166.out hb)
     have n2_ := Aside0.mk (Kd.R_below HO171.out hb)
     have n3_ := Aside0.mk (blk_below BK153.out hb)
     have n4_ := Aside0.mk (blk_below BK154.out hb)
     have n5_ := Aside0.mk (blk_below BK168.out hb)
     have n6_ := Aside0.mk (blk_below BK172.out hb)
     have n7_ := Aside0.mk (below_step HB.out hb)
     have n8_ := Aside0.mk (hbox)
     have n9_ := Aside0.mk ((by rw [hg]; exact (below_size HB.out) : w.heap.size ≤ gb181))
     have n10_ := Aside0.mk ((by rw [hg]; exact (below_size HB.out) : w.heap.size ≤ gb181))
     have n11_ := Aside0.mk ((by rw [hg]; exact Nat.ne_of_lt (blk_lt BK153.out) : gb153 ≠ gb181))
     have n12_ := Aside0.mk ((by rw [hg]; exact Nat.ne_of_gt (blk_lt BK153.out) : gb181 ≠ gb153))
     have n13_ := Aside0.mk ((by rw [hg]; exact Nat.ne_of_lt (blk_lt BK154.out) : gb154 ≠ gb181))
     have n14_ := Aside0.mk ((by rw [hg]; exact Nat.ne_of_gt (blk_lt BK154.out) : gb181 ≠ gb154))
     have n15_ := Aside0.mk ((by rw [hg]; exact Nat.ne_of_lt (blk_lt BK168.out) : gb168 ≠ gb181))
     have n16_ := Aside0.mk ((by rw [hg]; exact Nat.ne_of_gt (blk_lt BK168.out) : gb181 ≠ gb168))
     have n17_ := Aside0.mk ((by rw [hg]; exact Nat.ne_of_lt (blk_lt BK172.out) : gb172 ≠ gb181))
     have n18_ := Aside0.mk ((by rw [hg]; exact Nat.ne_of_gt (blk_lt BK172.out) : gb181 ≠ gb172))
     clear HO159 HO166 HO171 BK153 BK154 BK168 BK172 HB
     have HO159 := n0_; have HO166 := n1_; have HO171 := n2_; have BK153 := n3_; have BK154 := n4_; have BK168 := n5_; have BK172 := n6_; have HB := n7_; have BK181 := n8_; have GW181 := n9_; have GE181 := n10_; have NB153_181 := n11_; have NB181_153 := n12_; have NB154_181 := n13_; have NB181_154 := n14_; have NB168_181 := n15_; have NB181_168 := n16_; have NB172_181 := n17_; have NB181_172 := n18_
     clear n0_ n1_ n2_ n3_ n4_ n5_ n6_ n7_ n8_ n9_ n10_ n11_ n12_ n13_ n14_ n15_ n16_ n17_ n18_ hb hbox hg
     refine hK.out _ _ ⟨(blk_cell BK172.out 0).trans rfl, (blk_cell BK154.out 0).trans rfl, (blk_cell BK154.out 1).trans rfl, (blk_cell BK154.out 2).trans rfl, (blk_cell BK154.out 3).trans rfl⟩ (fun hHeld => ?_)
     clear hK K
     refine norm_ (a' := ?_) ?_ ?_
     rotate_left
     ·show Act.put _ (some 9) _ = _
      simp only [Act.put, List.setIfInBounds_toArray, List.set_cons_zero, List.set_cons_succ, i64_w, i32_w]
      rfl
     refine one_ (i := 2) (N := some 39) #[true, true, true, false, false, false, false, true, false, false] rfl rfl (one_of HT_.out (by kernel_rfl)) (by decide) (fun K hK => ?_)
     refine goes_ Try.func23 (by kernel_rfl) rfl #[.agg #[.int .i64 a1_0, .string a1_1, .string a1_2, .string a1_3]] (by rfl) rfl rfl (by (try simp only [List.map_toArray, List.map_cons, List.map_nil]); first | done | rfl | (simp only [List.length_drop, List.length_take]; rfl)) ?_
     with_reducible refine (laws_toAct.calls a1_0 a1_1 a1_2 a1_3 t173 t174 t175 t176 _ A23.out).mono ?_
     rintro e w54 ⟨rfl, hb⟩
     refine ⟨_, rfl, ?_⟩
     have n0_ := Aside0.mk (Kd.R_below HO159.out hb)
     have n1_ := Aside0.mk (Kd.R_below HO166.out hb)
     have n2_ := Aside0.mk (Kd.R_below HO171.out hb)
     have n3_ := Aside0.mk (blk_below BK153.out hb)
     have n4_ := Aside0.mk (blk_below BK154.out hb)
     have n5_ := Aside0.mk (blk_below BK168.out hb)
     have n6_ := Aside0.mk (blk_below BK172.out hb)
     have n7_ := Aside0.mk (blk_below BK181.out hb)
     have n8_ := Aside0.mk (below_step HB.out hb)
     clear HO159 HO166 HO171 BK153 BK154 BK168 BK172 BK181 HB
     have HO159 := n0_; have HO166 := n1_; have HO171 := n2_; have BK153 := n3_; have BK154 := n4_; have BK168 := n5_; have BK172 := n6_; have BK181 := n7_; have HB := n8_
     clear n0_ n1_ n2_ n3_ n4_ n5_ n6_ n7_ n8_
     (try clear hb); (try clear hb2); (try clear hk); (try clear hi)
     refine hK.out _ _ ⟨(blk_cell BK172.out 0).trans rfl, (blk_cell BK154.out 0).trans rfl, (blk_cell BK154.out 1).trans rfl, (blk_cell BK154.out 2).trans rfl, (blk_cell BK154.out 3).trans rfl⟩ (fun hHeld => ?_)
     clear hK K
     refine norm_ (a' := ?_) ?_ ?_
     rotate_left
     ·show Act.put _ (some 39) _ = _
      simp only [Act.put, List.setIfInBounds_toArray, List.set_cons_zero, List.set_cons_succ, i64_w, i32_w]
      rfl
     refine one_ (i := 3) (N := some 40) #[true, true, true, true, false, false, false, true, false, false] rfl rfl (one_of HT_.out (by kernel_rfl)) (by decide) (fun K hK => ?_)
     refine goes_ Try.func24 (by kernel_rfl) rfl #[.agg #[.slice Ao46 t169.length co46], .agg #[.int .i64 t173, .string t174, .string t175, .string t176]] (by rfl) rfl rfl (by (try simp only [List.map_toArray, List.map_cons, List.map_nil]); first | done | rfl | (simp only [List.length_drop, List.length_take]; rfl)) ?_
     with_reducible refine (impl_DoAct.calls _ _ t169 t173 t174 t175 t176 t177 t180 _ ?side1 ?side2 A24.out).mono ?_
     (case side1 => repeat (first | exact (Kd.R_reads' HO171.out).2.2 | (with_reducible refine Kd.C_alloc ?_ _) | (with_reducible refine Kd.C_drewN ?_ _) | (with_reducible refine Kd.C_drew ?_)))
     (case side2 => exact (Kd.R_reads' HO171.out).2.1)
     rintro e w55 ⟨v178, rfl, ho0, hb⟩
     refine ⟨_, rfl, ?_⟩
     have n0_ := Aside0.mk (Kd.R_elder' HO159.out (Kd.R_base ho0) hb)
     have n1_ := Aside0.mk (Kd.R_elder' HO166.out (Kd.R_base ho0) hb)
     have n2_ := Aside0.mk (Kd.R_elder' HO171.out (Kd.R_base ho0) hb)
     have n3_ := Aside0.mk (Kd.R_lower (Kd.R_new' (Kd.R_new' (Kd.R_new' ho0 (Kd.R_lt HO159.out)) (Kd.R_lt HO166.out)) (Kd.R_lt HO171.out)) (below_size HB.out))
     have n4_ := Aside0.mk (blk_below BK153.out hb)
     have n5_ := Aside0.mk (blk_below BK154.out hb)
     have n6_ := Aside0.mk (blk_below BK168.out hb)
     have n7_ := Aside0.mk (blk_below BK172.out hb)
     have n8_ := Aside0.mk (blk_below BK181.out hb)
     have n9_ := Aside0.mk (below_step HB.out hb)
     clear HO159 HO166 HO171 BK153 BK154 BK168 BK172 BK181 HB
     have HO159 := n0_; have HO166 := n1_; have HO171 := n2_; have HO179 := n3_; have BK153 := n4_; have BK154 := n5_; have BK168 := n6_; have BK172 := n7_; have BK181 := n8_; have HB := n9_
     clear n0_ n1_ n2_ n3_ n4_ n5_ n6_ n7_ n8_ n9_
     (try clear hb); (try clear hb2); (try clear hk); (try clear hi); (try clear ho0)
     refine hK.out _ _ ⟨(blk_cell BK172.out 0).trans rfl, (blk_cell BK154.out 0).trans rfl, (blk_cell BK154.out 1).trans rfl, (blk_cell BK154.out 2).trans rfl, (blk_cell BK154.out 3).trans rfl⟩ (fun hHeld => ?_)
     clear hK K
     refine norm_ (a' := ?_) ?_ ?_
     rotate_left
     ·show Act.put _ (some 40) _ = _
      simp only [Act.put, List.setIfInBounds_toArray, List.set_cons_zero, List.set_cons_succ, i64_w, i32_w]
      rfl
     refine pure_ (i := 4) (N := some 36) (v := ?_) (a' := ?_) #[true, true, true, true, true, false, false, true, false, false] rfl rfl (any_of HT_.out (by kernel_rfl)) (fun _ _ _ h => h) (Or.inl ⟨by rfl, ?_⟩) ?_ ?_
     rotate_left
     ·intro w'
      go_simp
      with_reducible rfl
     rotate_left
     ·simp only [Act.put, List.setIfInBounds_toArray, List.set_cons_zero, List.set_cons_succ, i64_w, i32_w]
      rfl
     refine pure_ (i := 5) (N := some 41) (v := ?_) (a' := ?_) #[true, true, true, true, true, true, false, true, false, false] rfl rfl (any_of HT_.out (by kernel_rfl)) (fun _ _ _ h => h) (Or.inl ⟨by rfl, ?_⟩) ?_ ?_
     rotate_left
     ·intro w'
      go_simp
      with_reducible rfl
     rotate_left
     ·simp only [Act.put, List.setIfInBounds_toArray, List.set_cons_zero, List.set_cons_succ, i64_w, i32_w]
      rfl
     refine pure_ (i := 6) (N := some 42) (v := ?_) (a' := ?_) #[true, true, true, true, true, true, true, true, false, false] rfl rfl (any_of HT_.out (by kernel_rfl)) (fun _ _ _ h => h) (Or.inl ⟨by rfl, ?_⟩) ?_ ?_
     rotate_left
     ·intro w'
      go_simp
      with_reducible rfl
     rotate_left
     ·simp only [Act.put, List.setIfInBounds_toArray, List.set_cons_zero, List.set_cons_succ, i64_w, i32_w]
      rfl
     exact norm_ (by simp only [putAll, Act.put, List.setIfInBounds_toArray, List.set_cons_zero, List.set_cons_succ]) (hCont (v178, gb181) _ ⟨hHeld, (Kd.R_mono HO159.out (fun _ hk => ⟨hk.1.1, ⟨hk.1.2, hk.2⟩⟩)), (Kd.R_mono HO166.out (fun _ hk => ⟨hk.1.1, ⟨hk.1.2, hk.2⟩⟩)), (Kd.R_mono HO171.out (fun _ hk => ⟨hk.1.1, ⟨hk.1.2, hk.2⟩⟩)), (Kd.R_mono HO179.out (fun _ hk => ⟨hk.1.1.2, ⟨hk.1.2, hk.2⟩⟩)), BK153.out, BK154.out, BK168.out, BK172.out, BK181.out, GW181.out, GE181.out, NB153_181.out, NB181_153.out, NB154_181.out, NB181_154.out, NB168_181.out, NB181_168.out, NB172_181.out, NB181_172.out, HB.out⟩)
   rintro ⟨v178, gb181⟩ w56 ⟨hS_, h0_, h1_, h2_, h3_, h4_, h5_, h6_, h7_, h8_, h9_, h10_, h11_, h12_, h13_, h14_, h15_, h16_, h17_, h18_, h19_⟩
   have n0_ : Aside0 (Kd.R k67 67 w56 w.heap.size (fun k_ => some k_ ≠ (.slice Ao40 t164.length co40 : Value).ownBlock ∧ some k_ ≠ (.slice Ao46 t169.length co46 : Value).ownBlock ∧ some k_ ≠ (v178 : Value).ownBlock) v158 t157) := ⟨h0_⟩
   have n1_ : Aside0 (Kd.R k67 67 w56 w.heap.size (fun k_ => some k_ ≠ (v158 : Value).ownBlock ∧ some k_ ≠ (.slice Ao46 t169.length co46 : Value).ownBlock ∧ some k_ ≠ (v178 : Value).ownBlock) (.slice Ao40 t164.length co40) t164) := ⟨h1_⟩
   have n2_ : Aside0 (Kd.R k67 67 w56 w.heap.size (fun k_ => some k_ ≠ (v158 : Value).ownBlock ∧ some k_ ≠ (.slice Ao40 t164.length co40 : Value).ownBlock ∧ some k_ ≠ (v178 : Value).ownBlock) (.slice Ao46 t169.length co46) t169) := ⟨h2_⟩
   have n3_ : Aside0 (Kd.R k67 67 w56 w.heap.size (fun k_ => some k_ ≠ (v158 : Value).ownBlock ∧ some k_ ≠ (.slice Ao40 t164.length co40 : Value).ownBlock ∧ some k_ ≠ (.slice Ao46 t169.length co46 : Value).ownBlock) v178 t177) := ⟨h3_⟩
   have n4_ : Aside0 (w56.heap[gb153]? = some (.cells #[.slice A0_0 l0_0.length c0_0] 24 (0, 0))) := ⟨h4_⟩
   have n5_ : Aside0 (w56.heap[gb154]? = some (.cells #[.int .i64 a1_0, .string a1_1, .string a1_2, .string a1_3] 37 (0, 0))) := ⟨h5_⟩
   have n6_ : Aside0 (w56.heap[gb168]? = some (.cells #[.slice Ao40 t164.length co40] 29 (0, 0))) := ⟨h6_⟩
   have n7_ : Aside0 (w56.heap[gb172]? = some (.cells #[.slice Ao46 t169.length co46] 29 (0, 0))) := ⟨h7_⟩
   have n8_ : Aside0 (w56.heap[gb181]? = some (.cells #[.slice none 0 0] 29 (0, 0))) := ⟨h8_⟩
   have n9_ : Aside0 (w.heap.size ≤ gb181) := ⟨h9_⟩
   have n10_ : Aside0 (w.heap.size ≤ gb181) := ⟨h10_⟩
   have n11_ : Aside0 (gb153 ≠ gb181) := ⟨h11_⟩
   have n12_ : Aside0 (gb181 ≠ gb153) := ⟨h12_⟩
   have n13_ : Aside0 (gb154 ≠ gb181) := ⟨h13_⟩
   have n14_ : Aside0 (gb181 ≠ gb154) := ⟨h14_⟩
   have n15_ : Aside0 (gb168 ≠ gb181) := ⟨h15_⟩
   have n16_ : Aside0 (gb181 ≠ gb168) := ⟨h16_⟩
   have n17_ : Aside0 (gb172 ≠ gb181) := ⟨h17_⟩
   have n18_ : Aside0 (gb181 ≠ gb172) := ⟨h18_⟩
   have n19_ : Aside0 (Below w.heap.size w w56) := ⟨h19_⟩
   clear HO159 HO166 HO171 BK153 BK154 BK168 BK172 HB h0_ h1_ h2_ h3_ h4_ h5_ h6_ h7_ h8_ h9_ h10_ h11_ h12_ h13_ h14_ h15_ h16_ h17_ h18_ h19_
   have HO159 := n0_; have HO166 := n1_; have HO171 := n2_; have HO179 := n3_; have BK153 := n4_; have BK154 := n5_; have BK168 := n6_; have BK172 := n7_; have BK181 := n8_; have GW181 := n9_; have GE181 := n10_; have NB153_181 := n11_; have NB181_153 := n12_; have NB154_181 := n13_; have NB181_154 := n14_; have NB168_181 := n15_; have NB181_168 := n16_; have NB172_181 := n17_; have NB181_172 := n18_; have HB := n19_
   clear n0_ n1_ n2_ n3_ n4_ n5_ n6_ n7_ n8_ n9_ n10_ n11_ n12_ n13_ n14_ n15_ n16_ n17_ n18_ n19_
   have hHeld : w56.cell? ⟨gb172, 0, none⟩ = some (.slice Ao46 t169.length co46) ∧ w56.cell? ⟨gb154, 0, none⟩ = some (.int .i64 a1_0) ∧ w56.cell? ⟨gb154, 1, none⟩ = some (.string a1_1) ∧ w56.cell? ⟨gb154, 2, none⟩ = some (.string a1_2) ∧ w56.cell? ⟨gb154, 3, none⟩ = some (.string a1_3) := hS_
   obtain ⟨Ao57, co57, eo57⟩ := Kd.R_slice HO179.out
   (first | subst eo57 | (injection eo57 with f1_ f2_ f3_; have f4_ := f1_.symm; have f5_ := f3_.symm; clear f1_ f2_ f3_; subst f4_; subst f5_))
   refine norm_ (a' := ?_) ?_ ?_
   rotate_left
   ·simp only [putAll, Act.put, List.setIfInBounds_toArray, List.set_cons_zero, List.set_cons_succ]
    rfl
   refine one_ (i := 8) (N := none) #[true, true, true, true, true, true, true, true, true, false] rfl rfl (one_of HT_.out (by kernel_rfl)) (by decide) (fun K hK => ?_)
   have hs58 : w56.cell? ⟨gb181, 0, none⟩ = some (.slice none 0 0) := (blk_cell BK181.out 0).trans rfl
   have hfs58 := blk_frozen BK181.out 0
   have hns58_0 := NB153_181.out; have hns58_1 := NB154_181.out; have hns58_2 := NB168_181.out; have hns58_3 := NB172_181.out; have hms58_0 := NB181_153.out; have hms58_1 := NB181_154.out; have hms58_2 := NB181_168.out; have hms58_3 := NB181_172.out
   refine skip_ (w1 := ?_) (by rfl) rfl ?_ ?_
   rotate_left
   ·go_simp
    rfl
   refine hK.out _ _ ⟨((cell_far (p := ⟨gb181, _, none⟩) NB172_181.out _).trans (hHeld.1)), ((cell_far (p := ⟨gb181, _, none⟩) NB154_181.out _).trans (hHeld.2.1)), ((cell_far (p := ⟨gb181, _, none⟩) NB154_181.out _).trans (hHeld.2.2.1)), ((cell_far (p := ⟨gb181, _, none⟩) NB154_181.out _).trans (hHeld.2.2.2.1)), ((cell_far (p := ⟨gb181, _, none⟩) NB154_181.out _).trans (hHeld.2.2.2.2))⟩ (fun hHeld => ?_)
   clear hK K
   refine pure_ (i := 9) (N := some 10) (v := ?_) (a' := ?_) #[true, true, true, true, true, true, true, true, true, true] rfl rfl (any_of HT_.out (by kernel_rfl)) (fun _ _ _ h => h) (Or.inl ⟨by rfl, ?_⟩) ?_ ?_
   rotate_left
   ·intro w'
    go_simp
    with_reducible rfl
   rotate_left
   ·simp only [Act.put, List.setIfInBounds_toArray, List.set_cons_zero, List.set_cons_succ, i64_w, i32_w]
    rfl
   refine done_ (done_of HT_.out (by kernel_rfl)) ?_
   go_upto_region 11 with (fail)
   go_cut [51] (fun v51 wc => ∃ (kq : Nat) (x51_24 : Bool), v51 = .bool x51_24 ∧ Aside0 (laws_FnExactDoAct.j0 kq t167 t180 x51_24 l0_0 a1_0 a1_1 a1_2 a1_3 t164 t169 t177 = some r) ∧ Aside0 (kq ≤ k) ∧ Aside0 (Kd.R k67 67 wc w.heap.size (fun k_ => some k_ ≠ ((.slice Ao46 t169.length co46) : Value).ownBlock ∧ some k_ ≠ ((.slice Ao57 t177.length co57) : Value).ownBlock) (.slice Ao40 t164.length co40) t164) ∧ Aside0 (Kd.R k67 67 wc w.heap.size (fun k_ => some k_ ≠ ((.slice Ao40 t164.length co40) : Value).ownBlock ∧ some k_ ≠ ((.slice Ao57 t177.length co57) : Value).ownBlock) (.slice Ao46 t169.length co46) t169) ∧ Aside0 (Kd.R k67 67 wc w.heap.size (fun k_ => some k_ ≠ ((.slice Ao40 t164.length co40) : Value).ownBlock ∧ some k_ ≠ ((.slice Ao46 t169.length co46) : Value).ownBlock) (.slice Ao57 t177.length co57) t177) ∧ Aside0 (wc.heap[gb153]? = some (.cells #[(.slice A0_0 l0_0.length c0_0)] 24 (0, 0))) ∧ Aside0 (wc.heap[gb154]? = some (.cells #[.int .i64 a1_0, .string a1_1, .string a1_2, .string a1_3] 37 (0, 0))) ∧ Aside0 (wc.heap[gb168]? = some (.cells #[(.slice Ao40 t164.length co40)] 29 (0, 0))) ∧ Aside0 (wc.heap[gb172]? = some (.cells #[(.slice Ao46 t169.length co46)] 29 (0, 0))) ∧ Aside0 (wc.heap[gb181]? = some (.cells #[(.slice Ao57 t177.length co57)] 29 (0, 0))) ∧ Aside0 (Below w.heap.size w wc))
   case first =>
    have H := HC25.out
    clear HC25
    replace H := Option.bind_eq_some_iff.mp H
    obtain ⟨t182, A590, H⟩ := H
    replace H : (if t182 = true then (laws_FnExactDoAct.j0 k t167 t180 (t180 != t167) l0_0 a1_0 a1_1 a1_2 a1_3 t164 t169 t177) else (laws_FnExactDoAct.j0 k t167 t180 true l0_0 a1_0 a1_1 a1_2 a1_3 t164 t169 t177)) = some r := H
    have A59 := Aside0.mk A590
    clear A590
    by_cases c60 : t182 = true
    ·subst c60
     have H1 : (laws_FnExactDoAct.j0 k t167 t180 (t180 != t167) l0_0 a1_0 a1_1 a1_2 a1_3 t164 t169 t177) = some r := by rw [if_pos rfl] at H; exact H
     clear H
     have H := H1
     clear H1
     have H' := Aside0.mk H
     clear H
     have hnb61 := NB181_153.out; have hnc61 := NB153_181.out; have hnb62 := NB181_154.out; have hnc62 := NB154_181.out; have hnb63 := NB181_168.out; have hnc63 := NB168_181.out; have hnb64 := NB181_172.out; have hnc64 := NB172_181.out
     have hcz65_0 : w56.cell? ⟨gb181, 0, none⟩ = some (.slice none 0 0) := (blk_cell BK181.out 0).trans rfl
     have hfz65_0 := blk_frozen BK181.out 0
     have hnb66 := NB168_153.out; have hnc66 := NB153_168.out; have hnb67 := NB168_154.out; have hnc67 := NB154_168.out; have hnb68 := NB168_172.out; have hnc68 := NB172_168.out
     have hcz69_0 : w56.cell? ⟨gb168, 0, none⟩ = some (.slice Ao40 t164.length co40) := (blk_cell BK168.out 0).trans rfl
     have hfz69_0 := blk_frozen BK168.out 0
     go_wp2_with (first | ((with_reducible refine gate_callee (f := 16) rfl ?_); refine goesL_ (some 45) rfl rfl Try.func16 (by kernel_rfl) rfl #[.agg #[.slice Ao57 t177.length co57], .agg #[.slice Ao40 t164.length co40]] rfl (by (try simp only [List.map_toArray, List.map_cons, List.map_nil]); first | done | rfl | (simp only [List.length_drop, List.length_take]; rfl)) ?_; (with_reducible refine (laws_eqDisk.calls k _ _ t177 _ _ t164 true _ ?side1 ?side2 ?side3 ?side4 A59.out).mono ?_); (case side1 => refine (Kd.R_reads' (e := 67) (base := w.heap.size) (ok := fun k_ => (some k_ ≠ (v158 : Value).ownBlock ∧ (some k_ ≠ (.slice Ao40 t164.length co40 : Value).ownBlock ∧ some k_ ≠ (.slice Ao46 t169.length co46 : Value).ownBlock))) (n := t177.length) (c := co57) ?_).2.2; exact (by (with_reducible repeat (first | apply Kd.R_alloc | apply Kd.R_drewN | apply Kd.R_drew)); exact (Kd.R_mono (Kd.R_far (p := ⟨gb181, 0, none⟩) (Kd.R_types HO179.out BK181.out (by decide)) (fun _ hk => hk.2) (.slice Ao57 t177.length co57)) (fun _ h_ => h_.1)))); (case side2 => exact (Kd.R_reads' HO179.out).2.1); (case side3 => refine (Kd.R_reads' (e := 67) (base := w.heap.size) (ok := fun k_ => (some k_ ≠ (v158 : Value).ownBlock ∧ (some k_ ≠ (.slice Ao46 t169.length co46 : Value).ownBlock ∧ some k_ ≠ (.slice Ao57 t177.length co57 : Value).ownBlock))) (n := t164.length) (c := co40) ?_).2.2; exact (by (with_reducible repeat (first | apply Kd.R_alloc | apply Kd.R_drewN | apply Kd.R_drew)); exact (Kd.R_mono (Kd.R_far (p := ⟨gb181, 0, none⟩) (Kd.R_types HO166.out BK181.out (by decide)) (fun _ hk => hk.2) (.slice Ao57 t177.length co57)) (fun _ h_ => h_.1)))); (case side4 => exact (Kd.R_reads' HO166.out).2.1); rintro e w70 ⟨rfl, hb⟩; refine ⟨_, rfl, ?_⟩; have n0_ := Aside0.mk (Kd.R_below (by (with_reducible repeat (first | apply Kd.R_alloc | apply Kd.R_drewN | apply Kd.R_drew)); exact (Kd.R_mono (Kd.R_far (p := ⟨gb181, 0, none⟩) (Kd.R_types HO159.out BK181.out (by decide)) (fun _ hk => hk.2) (.slice Ao57 t177.length co57)) (fun _ h_ => h_.1))) hb); have n1_ := Aside0.mk (Kd.R_below (by (with_reducible repeat (first | apply Kd.R_alloc | apply Kd.R_drewN | apply Kd.R_drew)); exact (Kd.R_mono (Kd.R_far (p := ⟨gb181, 0, none⟩) (Kd.R_types HO166.out BK181.out (by decide)) (fun _ hk => hk.2) (.slice Ao57 t177.length co57)) (fun _ h_ => h_.1))) hb); have n2_ := Aside0.mk (Kd.R_below (by (with_reducible repeat (first | apply Kd.R_alloc | apply Kd.R_drewN | apply Kd.R_drew)); exact (Kd.R_mono (Kd.R_far (p := ⟨gb181, 0, none⟩) (Kd.R_types HO171.out BK181.out (by decide)) (fun _ hk => hk.2) (.slice Ao57 t177.length co57)) (fun _ h_ => h_.1))) hb); have n3_ := Aside0.mk (Kd.R_below (by (with_reducible repeat (first | apply Kd.R_alloc | apply Kd.R_drewN | apply Kd.R_drew)); exact (Kd.R_mono (Kd.R_far (p := ⟨gb181, 0, none⟩) (Kd.R_types HO179.out BK181.out (by decide)) (fun _ hk => hk.2) (.slice Ao57 t177.length co57)) (fun _ h_ => h_.1))) hb); have n4_ := Aside0.mk (blk_below (g := gb153) (o := .cells #[.slice A0_0 l0_0.length c0_0] 24 (0, 0)) (by (with_reducible repeat (first | refine blk_drewN ?_ _ | refine blk_drew ?_ | refine blk_alloc ?_ _)); refine blk_far ?_ NB153_181.out _; (with_reducible repeat (first | refine blk_drewN ?_ _ | refine blk_drew ?_ | refine blk_alloc ?_ _)); exact BK153.out) hb); have n5_ := Aside0.mk (blk_below (g := gb154) (o := .cells #[.int .i64 a1_0, .string a1_1, .string a1_2, .string a1_3] 37 (0, 0)) (by (with_reducible repeat (first | refine blk_drewN ?_ _ | refine blk_drew ?_ | refine blk_alloc ?_ _)); refine blk_far ?_ NB154_181.out _; (with_reducible repeat (first | refine blk_drewN ?_ _ | refine blk_drew ?_ | refine blk_alloc ?_ _)); exact BK154.out) hb); have n6_ := Aside0.mk (blk_below (g := gb168) (o := .cells #[.slice Ao40 t164.length co40] 29 (0, 0)) (by (with_reducible repeat (first | refine blk_drewN ?_ _ | refine blk_drew ?_ | refine blk_alloc ?_ _)); refine blk_far ?_ NB168_181.out _; (with_reducible repeat (first | refine blk_drewN ?_ _ | refine blk_drew ?_ | refine blk_alloc ?_ _)); exact BK168.out) hb); have n7_ := Aside0.mk (blk_below (g := gb172) (o := .cells #[.slice Ao46 t169.length co46] 29 (0, 0)) (by (with_reducible repeat (first | refine blk_drewN ?_ _ | refine blk_drew ?_ | refine blk_alloc ?_ _)); refine blk_far ?_ NB172_181.out _; (with_reducible repeat (first | refine blk_drewN ?_ _ | refine blk_drew ?_ | refine blk_alloc ?_ _)); exact BK172.out) hb); have n8_ := Aside0.mk (blk_below (g := gb181) (o := .cells #[.slice Ao57 t177.length co57] 29 (0, 0)) (by (with_reducible repeat (first | refine blk_drewN ?_ _ | refine blk_drew ?_ | refine blk_alloc ?_ _)); refine blk_put (cs := #[.slice none 0 0]) ?_ 0 _ rfl; (with_reducible repeat (first | refine blk_drewN ?_ _ | refine blk_drew ?_ | refine blk_alloc ?_ _)); exact BK181.out) hb); have n9_ := Aside0.mk (below_step (by repeat (first | (with_reducible first | exact HB.out | apply below_alloc | apply pw_below_drewN | apply below_drew1 | refine below_set ?_ GE153.out | refine below_set ?_ GE154.out | refine below_set ?_ GE168.out | refine below_set ?_ GE172.out | refine below_set ?_ GE181.out) | exact HB.out)) hb); clear HO159; clear HO166; clear HO171; clear HO179; clear BK153; clear BK154; clear BK168; clear BK172; clear BK181; clear HB; have HO159 := n0_; have HO166 := n1_; have HO171 := n2_; have HO179 := n3_; have BK153 := n4_; have BK154 := n5_; have BK168 := n6_; have BK172 := n7_; have BK181 := n8_; have HB := n9_; clear n0_ n1_ n2_ n3_ n4_ n5_ n6_ n7_ n8_ n9_; (try clear hb); (try clear hb2); (try clear hk); (try clear hi)))
     go_meet
     case rel => exact ⟨_, ((t180 != t167)), (by first | rfl | (simp; done) | (simp [*]; done)), H', ⟨by first | omega | exact Nat.le_refl _⟩, ⟨by (with_reducible repeat (first | apply Kd.R_alloc | apply Kd.R_drewN | apply Kd.R_drew)); exact Kd.R_mono HO166.out (fun _ hk => ⟨hk.2.1, hk.2.2⟩)⟩, ⟨by (with_reducible repeat (first | apply Kd.R_alloc | apply Kd.R_drewN | apply Kd.R_drew)); exact Kd.R_mono HO171.out (fun _ hk => ⟨hk.2.1, hk.2.2⟩)⟩, ⟨by (with_reducible repeat (first | apply Kd.R_alloc | apply Kd.R_drewN | apply Kd.R_drew)); exact Kd.R_mono HO179.out (fun _ hk => ⟨hk.2.1, hk.2.2⟩)⟩, ⟨by (with_reducible repeat (first | refine blk_drewN ?_ _ | refine blk_drew ?_ | refine blk_alloc ?_ _)); exact BK153.out⟩, ⟨by (with_reducible repeat (first | refine blk_drewN ?_ _ | refine blk_drew ?_ | refine blk_alloc ?_ _)); exact BK154.out⟩, ⟨by (with_reducible repeat (first | refine blk_drewN ?_ _ | refine blk_drew ?_ | refine blk_alloc ?_ _)); exact BK168.out⟩, ⟨by (with_reducible repeat (first | refine blk_drewN ?_ _ | refine blk_drew ?_ | refine blk_alloc ?_ _)); exact BK172.out⟩, ⟨by (with_reducible repeat (first | refine blk_drewN ?_ _ | refine blk_drew ?_ | refine blk_alloc ?_ _)); exact BK181.out⟩, ⟨by repeat (first | (with_reducible first | exact HB.out | apply below_alloc | apply pw_below_drewN | apply below_drew1 | refine below_set ?_ GE153.out | refine below_set ?_ GE154.out | refine below_set ?_ GE168.out | refine below_set ?_ GE172.out | refine below_set ?_ GE181.out) | exact HB.out)⟩⟩
    ·replace c60 := Bool.eq_false_iff.mpr c60
     subst c60
     have H1 : (laws_FnExactDoAct.j0 k t167 t180 true l0_0 a1_0 a1_1 a1_2 a1_3 t164 t169 t177) = some r := by rw [if_neg (show ¬ (false = true) by decide)] at H; exact H
     clear H
     have H := H1
     clear H1
     exact absurd H (by rw [hr_.out]; cases k <;> simp [laws_FnExactDoAct.j0])
   case rest =>
    clear HC25
    try clear c1
    try clear c2
    try clear p2
    try clear c6
    try clear c7
    try clear c16
    try clear c23
    try clear c24
    try clear c60
    try clear c61
    try clear c62
    try clear c63
    try clear c64
    try clear c66
    try clear c67
    try clear c68
    try clear c71
    try clear c72
    try clear c73
    try clear c74
    try clear c76
    try clear c77
    try clear c78
    try clear hcz65_0
    try clear hcz69_0
    try clear hcz75_0
    try clear hcz79_0
    try clear hfz65_0
    try clear hfz69_0
    try clear hfz75_0
    try clear hfz79_0
    obtain ⟨kq, x51_24, rfl, HA, HJ24, HO_169000, HO_173000, HO_182000, BK153, BK154, BK168, BK172, BK181, HB⟩ := hcut
    cases kq with
    | zero => exact absurd HA.out (by simp [laws_FnExactDoAct.j0])
    | succ kj24 =>
     have H := HA.out
     clear HA
     simp only [laws_FnExactDoAct.j0] at H
     by_cases c81 : x51_24 = true
     ·subst c81
      have H1 : (some false) = some r := by rw [if_pos rfl] at H; exact H
      clear H
      have H := H1
      clear H1
      obtain rfl := Option.some.inj H
      exact absurd hr_.out (by decide)
     ·replace c81 := Bool.eq_false_iff.mpr c81
      subst c81
      have H1 : ((laws_toDisk.f kj24 l0_0).bind fun t183 => ((laws_eqDisk.f kj24 t169 t183).bind fun t186 => (if t186 = true then ((laws_markDisk.f kj24 t169 1).bind fun bt187 => (if bt187.1 < 0 then (laws_FnExactDoAct.j1 kj24 t167 true l0_0 a1_0 a1_1 a1_2 a1_3 t164 t177) else ((laws_eqDisk.f kj24 t177 t164).bind fun t189 => (if t189 = true then (laws_FnExactDoAct.j1 kj24 t167 (t180 != t167) l0_0 a1_0 a1_1 a1_2 a1_3 t164 t177) else (laws_FnExactDoAct.j1 kj24 t167 true l0_0 a1_0 a1_1 a1_2 a1_3 t164 t177))))) else (some false)))) = some r := by rw [if_neg (show ¬ (false = true) by decide)] at H; exact H
      clear H
      have H := H1
      clear H1
      replace H := Option.bind_eq_some_iff.mp H
      obtain ⟨t183, A820, H⟩ := H
      replace H : ((laws_eqDisk.f kj24 t169 t183).bind fun t186 => (if t186 = true then ((laws_markDisk.f kj24 t169 1).bind fun bt187 => (if bt187.1 < 0 then (laws_FnExactDoAct.j1 kj24 t167 true l0_0 a1_0 a1_1 a1_2 a1_3 t164 t177) else ((laws_eqDisk.f kj24 t177 t164).bind fun t189 => (if t189 = true then (laws_FnExactDoAct.j1 kj24 t167 (t180 != t167) l0_0 a1_0 a1_1 a1_2 a1_3 t164 t177) else (laws_FnExactDoAct.j1 kj24 t167 true l0_0 a1_0 a1_1 a1_2 a1_3 t164 t177))))) else (some false))) = some r := H
      have A82 := Aside0.mk A820
      clear A820
      replace H := Option.bind_eq_some_iff.mp H
      obtain ⟨t186, A830, H⟩ := H
      replace H : (if t186 = true then ((laws_markDisk.f kj24 t169 1).bind fun bt187 => (if bt187.1 < 0 then (laws_FnExactDoAct.j1 kj24 t167 true l0_0 a1_0 a1_1 a1_2 a1_3 t164 t177) else ((laws_eqDisk.f kj24 t177 t164).bind fun t189 => (if t189 = true then (laws_FnExactDoAct.j1 kj24 t167 (t180 != t167) l0_0 a1_0 a1_1 a1_2 a1_3 t164 t177) else (laws_FnExactDoAct.j1 kj24 t167 true l0_0 a1_0 a1_1 a1_2 a1_3 t164 t177))))) else (some false)) = some r := H
      have A83 := Aside0.mk A830
      clear A830
      by_cases c84 : t186 = true
      ·subst c84
       have H1 : ((laws_markDisk.f kj24 t169 1).bind fun bt187 => (if bt187.1 < 0 then (laws_FnExactDoAct.j1 kj24 t167 true l0_0 a1_0 a1_1 a1_2 a1_3 t164 t177) else ((laws_eqDisk.f kj24 t177 t164).bind fun t189 => (if t189 = true then (laws_FnExactDoAct.j1 kj24 t167 (t180 != t167) l0_0 a1_0 a1_1 a1_2 a1_3 t164 t177) else (laws_FnExactDoAct.j1 kj24 t167 true l0_0 a1_0 a1_1 a1_2 a1_3 t164 t177))))) = some r := by rw [if_pos rfl] at H; exact H
       clear H
       have H := H1
       clear H1
       replace H := Option.bind_eq_some_iff.mp H
       obtain ⟨⟨t187, t188⟩, A850, H⟩ := H
       replace H : (if t187 < 0 then (laws_FnExactDoAct.j1 kj24 t167 true l0_0 a1_0 a1_1 a1_2 a1_3 t164 t177) else ((laws_eqDisk.f kj24 t177 t164).bind fun t189 => (if t189 = true then (laws_FnExactDoAct.j1 kj24 t167 (t180 != t167) l0_0 a1_0 a1_1 a1_2 a1_3 t164 t177) else (laws_FnExactDoAct.j1 kj24 t167 true l0_0 a1_0 a1_1 a1_2 a1_3 t164 t177)))) = some r := H
       have A85 := Aside0.mk A850
       clear A850
       have HC86 := Aside0.mk H
       clear H
       try go_wp2
       have n0_ := Aside0.mk (Kd.R_drew HO_169000.out)
       have n1_ := Aside0.mk (Kd.R_drew HO_173000.out)
       have n2_ := Aside0.mk (Kd.R_drew HO_182000.out)
       have n3_ := Aside0.mk (blk_drew BK153.out)
       have n4_ := Aside0.mk (blk_drew BK154.out)
       have n5_ := Aside0.mk (blk_drew BK168.out)
       have n6_ := Aside0.mk (blk_drew BK172.out)
       have n7_ := Aside0.mk (blk_drew BK181.out)
       have n8_ := Aside0.mk (below_drew1 HB.out)
       clear HO_169000 HO_173000 HO_182000 BK153 BK154 BK168 BK172 BK181 HB
       have HO_169000 := n0_; have HO_173000 := n1_; have HO_182000 := n2_; have BK153 := n3_; have BK154 := n4_; have BK168 := n5_; have BK172 := n6_; have BK181 := n7_; have HB := n8_
       clear n0_ n1_ n2_ n3_ n4_ n5_ n6_ n7_ n8_
       refine start_ (n := 5) (S := fun w' => w'.cell? ⟨gb172, 0, none⟩ = some (.slice Ao46 t169.length co46) ∧ w'.cell? ⟨gb153, 0, none⟩ = some (.slice A0_0 l0_0.length c0_0)) (ds := []) #[false, false, false, false, false] (by kernel_rfl) rfl rfl ⟨(blk_cell BK172.out 0).trans rfl, (blk_cell BK153.out 0).trans rfl⟩ (fun hHeld => ?_)
       generalize wc.drew = w87 at HO_169000 HO_173000 HO_182000 BK153 BK154 BK168 BK172 BK181 HB hHeld ⊢
       refine take_ (i := 0) (N := some 52) (v := ?_) (a' := ?_) #[true, false, false, false, false] rfl rfl (by kernel_rfl) (fun _ _ _ h => h) (Or.inl ⟨by rfl, ?_⟩) hHeld ?_ ?_
       rotate_left
       ·rintro w' ⟨s0, s1⟩
        go_simp
        with_reducible rfl
       rotate_left
       ·simp only [Act.put, List.setIfInBounds_toArray, List.set_cons_zero, List.set_cons_succ, i64_w, i32_w]
        rfl
       refine take_ (i := 1) (N := some 53) (v := ?_) (a' := ?_) #[true, true, false, false, false] rfl rfl (by kernel_rfl) (fun _ _ _ h => h) (Or.inl ⟨by rfl, ?_⟩) hHeld ?_ ?_
       rotate_left
       ·rintro w' ⟨s0, s1⟩
        go_simp
        with_reducible rfl
       rotate_left
       ·simp only [Act.put, List.setIfInBounds_toArray, List.set_cons_zero, List.set_cons_succ, i64_w, i32_w]
        rfl
       refine one_ (i := 2) (N := some 54) #[true, true, true, false, false] rfl rfl (by kernel_rfl) (by decide) (fun K hK => ?_)
       refine goes_ Try.func14 (by kernel_rfl) rfl #[.agg #[.slice A0_0 l0_0.length c0_0]] (by rfl) rfl rfl (by (try simp only [List.map_toArray, List.map_cons, List.map_nil]); first | done | rfl | (simp only [List.length_drop, List.length_take]; rfl)) ?_
       with_reducible refine (laws_toDisk.calls kj24 _ _ l0_0 t183 _ ?side1 ?side2 A82.out).mono ?_
       (case side1 => repeat (first | exact (Kd.C_below HR0_0.out HB.out) | (with_reducible refine Kd.C_alloc ?_ _) | (with_reducible refine Kd.C_drewN ?_ _) | (with_reducible refine Kd.C_drew ?_)))
       (case side2 => exact HC0_0.out)
       rintro e w88 ⟨v184, rfl, ho0, hb⟩
       refine ⟨_, rfl, ?_⟩
       have n0_ := Aside0.mk (Kd.R_elder' HO_169000.out (Kd.R_base ho0) hb)
       have n1_ := Aside0.mk (Kd.R_elder' HO_173000.out (Kd.R_base ho0) hb)
       have n2_ := Aside0.mk (Kd.R_elder' HO_182000.out (Kd.R_base ho0) hb)
       have n3_ := Aside0.mk (Kd.R_lower (Kd.R_new' (Kd.R_new' (Kd.R_new' ho0 (Kd.R_lt HO_169000.out)) (Kd.R_lt HO_173000.out)) (Kd.R_lt HO_182000.out)) (below_size HB.out))
       have n4_ := Aside0.mk (blk_below BK153.out hb)
       have n5_ := Aside0.mk (blk_below BK154.out hb)
       have n6_ := Aside0.mk (blk_below BK168.out hb)
       have n7_ := Aside0.mk (blk_below BK172.out hb)
       have n8_ := Aside0.mk (blk_below BK181.out hb)
       have n9_ := Aside0.mk (below_step HB.out hb)
       clear HO_169000 HO_173000 HO_182000 BK153 BK154 BK168 BK172 BK181 HB
       have HO_169000 := n0_; have HO_173000 := n1_; have HO_182000 := n2_; have HO185 := n3_; have BK153 := n4_; have BK154 := n5_; have BK168 := n6_; have BK172 := n7_; have BK181 := n8_; have HB := n9_
       clear n0_ n1_ n2_ n3_ n4_ n5_ n6_ n7_ n8_ n9_
       (try clear hb); (try clear hb2); (try clear hk); (try clear hi); (try clear ho0)
       obtain ⟨Ao89, co89, eo89⟩ := Kd.R_slice HO185.out
       (first | subst eo89 | (injection eo89 with f1_ f2_ f3_; have f4_ := f1_.symm; have f5_ := f3_.symm; clear f1_ f2_ f3_; subst f4_; subst f5_))
       refine hK.out _ _ ⟨(blk_cell BK172.out 0).trans rfl, (blk_cell BK153.out 0).trans rfl⟩ (fun hHeld => ?_)
       clear hK K
       refine norm_ (a' := ?_) ?_ ?_
       rotate_left
       ·show Act.put _ (some 54) _ = _
        simp only [Act.put, List.setIfInBounds_toArray, List.set_cons_zero, List.set_cons_succ, i64_w, i32_w]
        rfl
       refine one_ (i := 3) (N := some 55) #[true, true, true, true, false] rfl rfl (by kernel_rfl) (by decide) (fun K hK => ?_)
       refine goes_ Try.func16 (by kernel_rfl) rfl #[.agg #[.slice Ao46 t169.length co46], .agg #[.slice Ao89 t183.length co89]] (by rfl) rfl rfl (by (try simp only [List.map_toArray, List.map_cons, List.map_nil]); first | done | rfl | (simp only [List.length_drop, List.length_take]; rfl)) ?_
       with_reducible refine (laws_eqDisk.calls kj24 _ _ t169 _ _ t183 true _ ?side1 ?side2 ?side3 ?side4 A83.out).mono ?_
       (case side1 => repeat (first | exact (Kd.R_reads' HO_173000.out).2.2 | (with_reducible refine Kd.C_alloc ?_ _) | (with_reducible refine Kd.C_drewN ?_ _) | (with_reducible refine Kd.C_drew ?_)))
       (case side2 => exact (Kd.R_reads' HO_173000.out).2.1)
       (case side3 => repeat (first | exact (Kd.R_reads' HO185.out).2.2 | (with_reducible refine Kd.C_alloc ?_ _) | (with_reducible refine Kd.C_drewN ?_ _) | (with_reducible refine Kd.C_drew ?_)))
       (case side4 => exact (Kd.R_reads' HO185.out).2.1)
       rintro e w90 ⟨rfl, hb⟩
       refine ⟨_, rfl, ?_⟩
       have n0_ := Aside0.mk (Kd.R_below HO_169000.out hb)
       have n1_ := Aside0.mk (Kd.R_below HO_173000.out hb)
       have n2_ := Aside0.mk (Kd.R_below HO_182000.out hb)
       have n3_ := Aside0.mk (Kd.R_below HO185.out hb)
       have n4_ := Aside0.mk (blk_below BK153.out hb)
       have n5_ := Aside0.mk (blk_below BK154.out hb)
       have n6_ := Aside0.mk (blk_below BK168.out hb)
       have n7_ := Aside0.mk (blk_below BK172.out hb)
       have n8_ := Aside0.mk (blk_below BK181.out hb)
       have n9_ := Aside0.mk (below_step HB.out hb)
       clear HO_169000 HO_173000 HO_182000 HO185 BK153 BK154 BK168 BK172 BK181 HB
       have HO_169000 := n0_; have HO_173000 := n1_; have HO_182000 := n2_; have HO185 := n3_; have BK153 := n4_; have BK154 := n5_; have BK168 := n6_; have BK172 := n7_; have BK181 := n8_; have HB := n9_
       clear n0_ n1_ n2_ n3_ n4_ n5_ n6_ n7_ n8_ n9_
       (try clear hb); (try clear hb2); (try clear hk); (try clear hi)
       refine hK.out _ _ ⟨(blk_cell BK172.out 0).trans rfl, (blk_cell BK153.out 0).trans rfl⟩ (fun hHeld => ?_)
       clear hK K
       refine norm_ (a' := ?_) ?_ ?_
       rotate_left
       ·show Act.put _ (some 55) _ = _
        simp only [Act.put, List.setIfInBounds_toArray, List.set_cons_zero, List.set_cons_succ, i64_w, i32_w]
        rfl
       refine pure_ (i := 4) (N := some 56) (v := ?_) (a' := ?_) #[true, true, true, true, true] rfl rfl (by kernel_rfl) (fun _ _ _ h => h) (Or.inl ⟨by rfl, ?_⟩) ?_ ?_
       rotate_left
       ·intro w'
        go_simp
        with_reducible rfl
       rotate_left
       ·simp only [Act.put, List.setIfInBounds_toArray, List.set_cons_zero, List.set_cons_succ, i64_w, i32_w]
        rfl
       refine done_ (by kernel_rfl) ?_
       have hnb91 := NB172_153.out; have hnc91 := NB153_172.out; have hnb92 := NB172_154.out; have hnc92 := NB154_172.out; have hnb93 := NB172_168.out; have hnc93 := NB168_172.out; have hnb94 := NB172_181.out; have hnc94 := NB181_172.out
       have hcz95_0 : w90.cell? ⟨gb172, 0, none⟩ = some (.slice Ao46 t169.length co46) := (blk_cell BK172.out 0).trans rfl
       have hfz95_0 := blk_frozen BK172.out 0
       go_upto_region 17 with (first | ((with_reducible refine gate_callee (f := 25) rfl ?_); refine goesL_ (some 59) rfl rfl Try.func25 (by kernel_rfl) rfl #[.agg #[.slice Ao46 t169.length co46], .int .i64 1] rfl (by (try simp only [List.map_toArray, List.map_cons, List.map_nil]); first | done | rfl | (simp only [List.length_drop, List.length_take]; rfl)) ?_; (with_reducible refine (laws_markDisk.calls kj24 (fun k_ => some k_ = (.slice Ao46 t169.length co46 : Value).ownBlock) (.slice Ao46 t169.length co46) t169 1 t187 t188 w _ ?side1 ?side2 A85.out).mono ?_); (case side1 => repeat (first | (with_reducible first | exact HB.out | apply below_alloc | apply pw_below_drewN | apply below_drew1 | refine below_set ?_ GE153.out | refine below_set ?_ GE154.out | refine below_set ?_ GE168.out | refine below_set ?_ GE172.out | refine below_set ?_ GE181.out) | exact HB.out)); (case side2 => exact Kd.R_tight rfl HO_173000.out); rintro e w96 ⟨rfl, hy0, hb, hkp⟩; refine ⟨_, rfl, ?_⟩; have n0_ := Aside0.mk (Kd.R_mono (ok' := fun k_ => some k_ ≠ (.slice Ao46 t169.length co46 : Value).ownBlock ∧ some k_ ≠ (.slice Ao57 t177.length co57 : Value).ownBlock ∧ some k_ ≠ (.slice Ao89 t183.length co89 : Value).ownBlock) (Kd.R_keptB (HO_169000.out) hkp (fun k_ hk_ hs_ => (hk_.1.1) hs_)) (fun k_ hk_ => ⟨hk_.1.1.1, hk_.1.1.2, hk_.1.2⟩)); have n1_ := Aside0.mk (Kd.R_reok rfl hy0 (fun k_ e_ => HO_173000.out.1 k_ e_)); have n2_ := Aside0.mk (Kd.R_mono (ok' := fun k_ => some k_ ≠ (.slice Ao40 t164.length co40 : Value).ownBlock ∧ some k_ ≠ (.slice Ao46 t169.length co46 : Value).ownBlock ∧ some k_ ≠ (.slice Ao89 t183.length co89 : Value).ownBlock) (Kd.R_keptB (HO_182000.out) hkp (fun k_ hk_ hs_ => (hk_.1.2) hs_)) (fun k_ hk_ => ⟨hk_.1.1.1, hk_.1.1.2, hk_.1.2⟩)); have n3_ := Aside0.mk (blk_kept (by first | exact BK153.out | ((with_reducible repeat (first | refine blk_drewN ?_ _ | refine blk_drew ?_ | refine blk_alloc ?_ _)); exact BK153.out)) hkp (fun hs_ => (fun e_ => (Kd.R_ne HO_173000.out BK153.out (by decide)) e_) hs_)); have n4_ := Aside0.mk (blk_kept (by first | exact BK154.out | ((with_reducible repeat (first | refine blk_drewN ?_ _ | refine blk_drew ?_ | refine blk_alloc ?_ _)); exact BK154.out)) hkp (fun hs_ => (fun e_ => (Kd.R_ne HO_173000.out BK154.out (by decide)) e_) hs_)); have n5_ := Aside0.mk (blk_kept (by first | exact BK168.out | ((with_reducible repeat (first | refine blk_drewN ?_ _ | refine blk_drew ?_ | refine blk_alloc ?_ _)); exact BK168.out)) hkp (fun hs_ => (fun e_ => (Kd.R_ne HO_173000.out BK168.out (by decide)) e_) hs_)); have n6_ := Aside0.mk (blk_kept (by first | exact BK172.out | ((with_reducible repeat (first | refine blk_drewN ?_ _ | refine blk_drew ?_ | refine blk_alloc ?_ _)); exact BK172.out)) hkp (fun hs_ => (fun e_ => (Kd.R_ne HO_173000.out BK172.out (by decide)) e_) hs_)); have n7_ := Aside0.mk (blk_kept (by first | exact BK181.out | ((with_reducible repeat (first | refine blk_drewN ?_ _ | refine blk_drew ?_ | refine blk_alloc ?_ _)); exact BK181.out)) hkp (fun hs_ => (fun e_ => (Kd.R_ne HO_173000.out BK181.out (by decide)) e_) hs_)); have n8_ := Aside0.mk (Kd.R_mono (ok' := fun k_ => some k_ ≠ (.slice Ao40 t164.length co40 : Value).ownBlock ∧ some k_ ≠ (.slice Ao46 t169.length co46 : Value).ownBlock ∧ some k_ ≠ (.slice Ao57 t177.length co57 : Value).ownBlock) (Kd.R_keptB (HO185.out) hkp (fun k_ hk_ hs_ => (hk_.1.2) hs_)) (fun k_ hk_ => ⟨hk_.1.1.1.2, hk_.1.1.2, hk_.1.2⟩)); have n9_ := Aside0.mk (hb); clear HO_169000; clear HO_173000; clear HO_182000; clear BK153; clear BK154; clear BK168; clear BK172; clear BK181; clear HO185; clear HB; have HO_169000 := n0_; have HO_173000 := n1_; have HO_182000 := n2_; have BK153 := n3_; have BK154 := n4_; have BK168 := n5_; have BK172 := n6_; have BK181 := n7_; have HO185 := n8_; have HB := n9_; clear n0_ n1_ n2_ n3_ n4_ n5_ n6_ n7_ n8_ n9_; (try clear hb); (try clear hkp); (try clear hy0)))
       (try simp only [Act.put, List.setIfInBounds_toArray, List.set_cons_zero, List.set_cons_succ])
       go_cut [72] (fun v72 wc => ∃ (kq : Nat) (x72_85 : Bool), v72 = .bool x72_85 ∧ Aside0 (laws_FnExactDoAct.j1 kq t167 x72_85 l0_0 a1_0 a1_1 a1_2 a1_3 t164 t177 = some r) ∧ Aside0 (kq ≤ kj24) ∧ Aside0 (Kd.R k67 67 wc w.heap.size (fun k_ => some k_ ≠ ((.slice Ao46 t169.length co46) : Value).ownBlock ∧ some k_ ≠ ((.slice Ao57 t177.length co57) : Value).ownBlock) (.slice Ao40 t164.length co40) t164) ∧ Aside0 (Kd.R k67 67 wc w.heap.size (fun k_ => some k_ ≠ ((.slice Ao40 t164.length co40) : Value).ownBlock ∧ some k_ ≠ ((.slice Ao57 t177.length co57) : Value).ownBlock) (.slice Ao46 t169.length co46) t188) ∧ Aside0 (Kd.R k67 67 wc w.heap.size (fun k_ => some k_ ≠ ((.slice Ao40 t164.length co40) : Value).ownBlock ∧ some k_ ≠ ((.slice Ao46 t169.length co46) : Value).ownBlock) (.slice Ao57 t177.length co57) t177) ∧ Aside0 (wc.heap[gb153]? = some (.cells #[(.slice A0_0 l0_0.length c0_0)] 24 (0, 0))) ∧ Aside0 (wc.heap[gb154]? = some (.cells #[.int .i64 a1_0, .string a1_1, .string a1_2, .string a1_3] 37 (0, 0))) ∧ Aside0 (wc.heap[gb168]? = some (.cells #[(.slice Ao40 t164.length co40)] 29 (0, 0))) ∧ Aside0 (wc.heap[gb172]? = some (.cells #[(.slice Ao46 t169.length co46)] 29 (0, 0))) ∧ Aside0 (wc.heap[gb181]? = some (.cells #[(.slice Ao57 t177.length co57)] 29 (0, 0))) ∧ Aside0 (Below w.heap.size w wc))
       case first =>
        have H := HC86.out
        clear HC86
        by_cases c97 : t187 < 0
        ·rw [if_pos c97] at H
         have c97b0 : decide (t187 < 0) = true := decide_eq_true c97
         clear c97
         (first | rw [c97b0] | (simp only [i64_w, i32_w]; rw [c97b0]) | skip)
         exact absurd H (by rw [hr_.out]; cases kj24 <;> simp [laws_FnExactDoAct.j1])
        ·rw [if_neg c97] at H
         have c97b0 : decide (t187 < 0) = false := decide_eq_false c97
         clear c97
         (first | rw [c97b0] | (simp only [i64_w, i32_w]; rw [c97b0]) | skip)
         replace H := Option.bind_eq_some_iff.mp H
         obtain ⟨t189, A980, H⟩ := H
         replace H : (if t189 = true then (laws_FnExactDoAct.j1 kj24 t167 (t180 != t167) l0_0 a1_0 a1_1 a1_2 a1_3 t164 t177) else (laws_FnExactDoAct.j1 kj24 t167 true l0_0 a1_0 a1_1 a1_2 a1_3 t164 t177)) = some r := H
         have A98 := Aside0.mk A980
         clear A980
         by_cases c99 : t189 = true
         ·subst c99
          have H1 : (laws_FnExactDoAct.j1 kj24 t167 (t180 != t167) l0_0 a1_0 a1_1 a1_2 a1_3 t164 t177) = some r := by rw [if_pos rfl] at H; exact H
          clear H
          have H := H1
          clear H1
          have H' := Aside0.mk H
          clear H
          have hnb100 := NB181_153.out; have hnc100 := NB153_181.out; have hnb101 := NB181_154.out; have hnc101 := NB154_181.out; have hnb102 := NB181_168.out; have hnc102 := NB168_181.out; have hnb103 := NB181_172.out; have hnc103 := NB172_181.out
          have hcz104_0 : w96.cell? ⟨gb181, 0, none⟩ = some (.slice Ao57 t177.length co57) := (blk_cell BK181.out 0).trans rfl
          have hfz104_0 := blk_frozen BK181.out 0
          have hnb105 := NB168_153.out; have hnc105 := NB153_168.out; have hnb106 := NB168_154.out; have hnc106 := NB154_168.out; have hnb107 := NB168_172.out; have hnc107 := NB172_168.out
          have hcz108_0 : w96.cell? ⟨gb168, 0, none⟩ = some (.slice Ao40 t164.length co40) := (blk_cell BK168.out 0).trans rfl
          have hfz108_0 := blk_frozen BK168.out 0
          go_wp2_with (first | (go_at_call 16; (with_reducible refine (laws_eqDisk.calls kj24 _ _ t177 _ _ t164 true _ ?side1 ?side2 ?side3 ?side4 A98.out).mono ?_); (case side1 => repeat (first | exact (Kd.R_reads' HO_182000.out).2.2 | (with_reducible refine Kd.C_alloc ?_ _) | (with_reducible refine Kd.C_drewN ?_ _) | (with_reducible refine Kd.C_drew ?_))); (case side2 => exact (Kd.R_reads' HO_182000.out).2.1); (case side3 => repeat (first | exact (Kd.R_reads' HO_169000.out).2.2 | (with_reducible refine Kd.C_alloc ?_ _) | (with_reducible refine Kd.C_drewN ?_ _) | (with_reducible refine Kd.C_drew ?_))); (case side4 => exact (Kd.R_reads' HO_169000.out).2.1); rintro e w109 ⟨rfl, hb⟩; have n0_ := Aside0.mk (Kd.R_below (by (with_reducible repeat (first | apply Kd.R_alloc | apply Kd.R_drewN | apply Kd.R_drew)); exact HO_169000.out) hb); have n1_ := Aside0.mk (Kd.R_below (by (with_reducible repeat (first | apply Kd.R_alloc | apply Kd.R_drewN | apply Kd.R_drew)); exact HO_173000.out) hb); have n2_ := Aside0.mk (Kd.R_below (by (with_reducible repeat (first | apply Kd.R_alloc | apply Kd.R_drewN | apply Kd.R_drew)); exact HO_182000.out) hb); have n3_ := Aside0.mk (Kd.R_below (by (with_reducible repeat (first | apply Kd.R_alloc | apply Kd.R_drewN | apply Kd.R_drew)); exact HO185.out) hb); have n4_ := Aside0.mk (blk_below (g := gb153) (o := .cells #[.slice A0_0 l0_0.length c0_0] 24 (0, 0)) (by (with_reducible repeat (first | refine blk_drewN ?_ _ | refine blk_drew ?_ | refine blk_alloc ?_ _)); exact BK153.out) hb); have n5_ := Aside0.mk (blk_below (g := gb154) (o := .cells #[.int .i64 a1_0, .string a1_1, .string a1_2, .string a1_3] 37 (0, 0)) (by (with_reducible repeat (first | refine blk_drewN ?_ _ | refine blk_drew ?_ | refine blk_alloc ?_ _)); exact BK154.out) hb); have n6_ := Aside0.mk (blk_below (g := gb168) (o := .cells #[.slice Ao40 t164.length co40] 29 (0, 0)) (by (with_reducible repeat (first | refine blk_drewN ?_ _ | refine blk_drew ?_ | refine blk_alloc ?_ _)); exact BK168.out) hb); have n7_ := Aside0.mk (blk_below (g := gb172) (o := .cells #[.slice Ao46 t169.length co46] 29 (0, 0)) (by (with_reducible repeat (first | refine blk_drewN ?_ _ | refine blk_drew ?_ | refine blk_alloc ?_ _)); exact BK172.out) hb); have n8_ := Aside0.mk (blk_below (g := gb181) (o := .cells #[.slice Ao57 t177.length co57] 29 (0, 0)) (by (with_reducible repeat (first | refine blk_drewN ?_ _ | refine blk_drew ?_ | refine blk_alloc ?_ _)); exact BK181.out) hb); have n9_ := Aside0.mk (below_step (by repeat (first | (with_reducible first | exact HB.out | apply below_alloc | apply pw_below_drewN | apply below_drew1 | refine below_set ?_ GE153.out | refine below_set ?_ GE154.out | refine below_set ?_ GE168.out | refine below_set ?_ GE172.out | refine below_set ?_ GE181.out) | exact HB.out)) hb); clear HO_169000; clear HO_173000; clear HO_182000; clear HO185; clear BK153; clear BK154; clear BK168; clear BK172; clear BK181; clear HB; have HO_169000 := n0_; have HO_173000 := n1_; have HO_182000 := n2_; have HO185 := n3_; have BK153 := n4_; have BK154 := n5_; have BK168 := n6_; have BK172 := n7_; have BK181 := n8_; have HB := n9_; clear n0_ n1_ n2_ n3_ n4_ n5_ n6_ n7_ n8_ n9_; (try clear hb); (try clear hb2); (try clear hk); (try clear hi)))
          go_meet
          case rel => exact ⟨_, ((t180 != t167)), (by first | rfl | (simp; done) | (simp [*]; done)), H', ⟨by have := HJ24.out; first | omega | exact Nat.le_refl _⟩, ⟨by (with_reducible repeat (first | apply Kd.R_alloc | apply Kd.R_drewN | apply Kd.R_drew)); exact Kd.R_mono HO_169000.out (fun _ hk => ⟨hk.1, hk.2.1⟩)⟩, ⟨by (with_reducible repeat (first | apply Kd.R_alloc | apply Kd.R_drewN | apply Kd.R_drew)); exact Kd.R_mono HO_173000.out (fun _ hk => ⟨hk.1.1, hk.1.2⟩)⟩, ⟨by (with_reducible repeat (first | apply Kd.R_alloc | apply Kd.R_drewN | apply Kd.R_drew)); exact Kd.R_mono HO_182000.out (fun _ hk => ⟨hk.1, hk.2.1⟩)⟩, ⟨by (with_reducible repeat (first | refine blk_drewN ?_ _ | refine blk_drew ?_ | refine blk_alloc ?_ _)); exact BK153.out⟩, ⟨by (with_reducible repeat (first | refine blk_drewN ?_ _ | refine blk_drew ?_ | refine blk_alloc ?_ _)); exact BK154.out⟩, ⟨by (with_reducible repeat (first | refine blk_drewN ?_ _ | refine blk_drew ?_ | refine blk_alloc ?_ _)); exact BK168.out⟩, ⟨by (with_reducible repeat (first | refine blk_drewN ?_ _ | refine blk_drew ?_ | refine blk_alloc ?_ _)); exact BK172.out⟩, ⟨by (with_reducible repeat (first | refine blk_drewN ?_ _ | refine blk_drew ?_ | refine blk_alloc ?_ _)); exact BK181.out⟩, ⟨by repeat (first | (with_reducible first | exact HB.out | apply below_alloc | apply pw_below_drewN | apply below_drew1 | refine below_set ?_ GE153.out | refine below_set ?_ GE154.out | refine below_set ?_ GE168.out | refine below_set ?_ GE172.out | refine below_set ?_ GE181.out) | exact HB.out)⟩⟩
         ·replace c99 := Bool.eq_false_iff.mpr c99
          subst c99
          have H1 : (laws_FnExactDoAct.j1 kj24 t167 true l0_0 a1_0 a1_1 a1_2 a1_3 t164 t177) = some r := by rw [if_neg (show ¬ (false = true) by decide)] at H; exact H
          clear H
          have H := H1
          clear H1
          exact absurd H (by rw [hr_.out]; cases kj24 <;> simp [laws_FnExactDoAct.j1])
       case rest =>
        clear HC86
        try clear c1
        try clear c2
        try clear p2
        try clear c6
        try clear c7
        try clear c8
        try clear c9
        try clear c10
        try clear c11
        try clear c14
        try clear c16
        try clear c23
        try clear c24
        try clear c25
        try clear c60
        try clear c61
        try clear c62
        try clear c63
        try clear c64
        try clear c66
        try clear c67
        try clear c68
        try clear c71
        try clear c72
        try clear c73
        try clear c74
        try clear c76
        try clear c77
        try clear c78
        try clear c81
        try clear c84
        try clear c91
        try clear c92
        try clear c93
        try clear c94
        try clear c97
        try clear c97b0
        try clear c99
        try clear c100
        try clear c101
        try clear c102
        try clear c103
        try clear c105
        try clear c106
        try clear c107
        try clear c110
        try clear c111
        try clear c112
        try clear c113
        try clear c115
        try clear c116
        try clear c117
        try clear hcz104_0
        try clear hcz108_0
        try clear hcz114_0
        try clear hcz118_0
        try clear hcz65_0
        try clear hcz69_0
        try clear hcz75_0
        try clear hcz79_0
        try clear hcz95_0
        try clear hfz104_0
        try clear hfz108_0
        try clear hfz114_0
        try clear hfz118_0
        try clear hfz65_0
        try clear hfz69_0
        try clear hfz75_0
        try clear hfz79_0
        try clear hfz95_0
        try clear p2
        obtain ⟨kq, x72_85, rfl, HA, HJ85, HO_169000, HO_173000, HO_182000, BK153, BK154, BK168, BK172, BK181, HB⟩ := hcut
        have hl173000_85 := (Kd.R_reads' HO_173000.out).1
        rw [hl173000_85] at HO_173000
        (try simp only [hl173000_85])
        (try simp only [hl173000_85] at BK153)
        (try simp only [hl173000_85] at BK154)
        (try simp only [hl173000_85] at BK168)
        (try simp only [hl173000_85] at BK172)
        (try simp only [hl173000_85] at BK181)
        (try simp only [hl173000_85] at HO_169000)
        (try simp only [hl173000_85] at HO_182000)
        cases kq with
        | zero => exact absurd HA.out (by simp [laws_FnExactDoAct.j1])
        | succ kj85 =>
         have H := HA.out
         clear HA
         simp only [laws_FnExactDoAct.j1] at H
         by_cases c120 : x72_85 = true
         ·subst c120
          have H1 : (some false) = some r := by rw [if_pos rfl] at H; exact H
          clear H
          have H := H1
          clear H1
          obtain rfl := Option.some.inj H
          exact absurd hr_.out (by decide)
         ·replace c120 := Bool.eq_false_iff.mpr c120
          subst c120
          have H1 : ((laws_markDisk.f kj85 t177 1).bind fun bt190 => ((laws_heldDisk.f kj85 bt190.2 1).bind fun t192 => (if t192 < 0 then (some false) else (if t192 = bt190.1 then ((laws_toDisk.f kj85 l0_0).bind fun t193 => ((laws_toAct.f a1_0 a1_1 a1_2 a1_3).bind fun bt196 => ((impl_DoAct.f t193 bt196.1 bt196.2.1 bt196.2.2.1 bt196.2.2.2).bind fun bt200 => ((laws_eqDisk.f kj85 bt200.1 t164).bind fun t205 => (if t205 = true then (laws_FnExactDoAct.j2 kj85 bt190.1 (bt200.2 != t167) bt190.2) else (laws_FnExactDoAct.j2 kj85 bt190.1 true bt190.2)))))) else (some false))))) = some r := by rw [if_neg (show ¬ (false = true) by decide)] at H; exact H
          clear H
          have H := H1
          clear H1
          replace H := Option.bind_eq_some_iff.mp H
          obtain ⟨⟨t190, t191⟩, A1210, H⟩ := H
          replace H : ((laws_heldDisk.f kj85 t191 1).bind fun t192 => (if t192 < 0 then (some false) else (if t192 = t190 then ((laws_toDisk.f kj85 l0_0).bind fun t193 => ((laws_toAct.f a1_0 a1_1 a1_2 a1_3).bind fun bt196 => ((impl_DoAct.f t193 bt196.1 bt196.2.1 bt196.2.2.1 bt196.2.2.2).bind fun bt200 => ((laws_eqDisk.f kj85 bt200.1 t164).bind fun t205 => (if t205 = true then (laws_FnExactDoAct.j2 kj85 t190 (bt200.2 != t167) t191) else (laws_FnExactDoAct.j2 kj85 t190 true t191)))))) else (some false)))) = some r := H
          have A121 := Aside0.mk A1210
          clear A1210
          replace H := Option.bind_eq_some_iff.mp H
          obtain ⟨t192, A1220, H⟩ := H
          replace H : (if t192 < 0 then (some false) else (if t192 = t190 then ((laws_toDisk.f kj85 l0_0).bind fun t193 => ((laws_toAct.f a1_0 a1_1 a1_2 a1_3).bind fun bt196 => ((impl_DoAct.f t193 bt196.1 bt196.2.1 bt196.2.2.1 bt196.2.2.2).bind fun bt200 => ((laws_eqDisk.f kj85 bt200.1 t164).bind fun t205 => (if t205 = true then (laws_FnExactDoAct.j2 kj85 t190 (bt200.2 != t167) t191) else (laws_FnExactDoAct.j2 kj85 t190 true t191)))))) else (some false))) = some r := H
          have A122 := Aside0.mk A1220
          clear A1220
          by_cases c123 : t192 < 0
          ·rw [if_pos c123] at H
           have c123b0 : decide (t192 < 0) = true := decide_eq_true c123
           clear c123
           obtain rfl := Option.some.inj H
           have hnb124 := NB181_153.out; have hnc124 := NB153_181.out; have hnb125 := NB181_154.out; have hnc125 := NB154_181.out; have hnb126 := NB181_168.out; have hnc126 := NB168_181.out; have hnb127 := NB181_172.out; have hnc127 := NB172_181.out
           have hcz128_0 : wc.cell? ⟨gb181, 0, none⟩ = some (.slice Ao57 t177.length co57) := (blk_cell BK181.out 0).trans rfl
           have hfz128_0 := blk_frozen BK181.out 0
           go_wp2_with (first | ((with_reducible refine gate_callee (f := 25) rfl ?_); refine goesL_ (some 75) rfl rfl Try.func25 (by kernel_rfl) rfl #[.agg #[.slice Ao57 t177.length co57], .int .i64 1] rfl (by (try simp only [List.map_toArray, List.map_cons, List.map_nil]); first | done | rfl | (simp only [List.length_drop, List.length_take]; rfl)) ?_; (with_reducible refine (laws_markDisk.calls kj85 (fun k_ => some k_ = (.slice Ao57 t177.length co57 : Value).ownBlock) (.slice Ao57 t177.length co57) t177 1 t190 t191 w _ ?side1 ?side2 A121.out).mono ?_); (case side1 => repeat (first | (with_reducible first | exact HB.out | apply below_alloc | apply pw_below_drewN | apply below_drew1 | refine below_set ?_ GE153.out | refine below_set ?_ GE154.out | refine below_set ?_ GE168.out | refine below_set ?_ GE172.out | refine below_set ?_ GE181.out) | exact HB.out)); (case side2 => exact Kd.R_tight rfl HO_182000.out); rintro e w129 ⟨rfl, hy0, hb, hkp⟩; refine ⟨_, rfl, ?_⟩; have n0_ := Aside0.mk (Kd.R_mono (ok' := fun k_ => some k_ ≠ (.slice Ao46 t188.length co46 : Value).ownBlock ∧ some k_ ≠ (.slice Ao57 t177.length co57 : Value).ownBlock) (Kd.R_keptB (HO_169000.out) hkp (fun k_ hk_ hs_ => (hk_.2) hs_)) (fun k_ hk_ => ⟨hk_.1.1, hk_.1.2⟩)); have n1_ := Aside0.mk (Kd.R_mono (ok' := fun k_ => some k_ ≠ (.slice Ao40 t164.length co40 : Value).ownBlock ∧ some k_ ≠ (.slice Ao57 t177.length co57 : Value).ownBlock) (Kd.R_keptB (HO_173000.out) hkp (fun k_ hk_ hs_ => (hk_.2) hs_)) (fun k_ hk_ => ⟨hk_.1.1, hk_.1.2⟩)); have n2_ := Aside0.mk (Kd.R_reok rfl hy0 (fun k_ e_ => HO_182000.out.1 k_ e_)); have n3_ := Aside0.mk (blk_kept (by first | exact BK153.out | ((with_reducible repeat (first | refine blk_drewN ?_ _ | refine blk_drew ?_ | refine blk_alloc ?_ _)); exact BK153.out)) hkp (fun hs_ => (fun e_ => (Kd.R_ne HO_182000.out BK153.out (by decide)) e_) hs_)); have n4_ := Aside0.mk (blk_kept (by first | exact BK154.out | ((with_reducible repeat (first | refine blk_drewN ?_ _ | refine blk_drew ?_ | refine blk_alloc ?_ _)); exact BK154.out)) hkp (fun hs_ => (fun e_ => (Kd.R_ne HO_182000.out BK154.out (by decide)) e_) hs_)); have n5_ := Aside0.mk (blk_kept (by first | exact BK168.out | ((with_reducible repeat (first | refine blk_drewN ?_ _ | refine blk_drew ?_ | refine blk_alloc ?_ _)); exact BK168.out)) hkp (fun hs_ => (fun e_ => (Kd.R_ne HO_182000.out BK168.out (by decide)) e_) hs_)); have n6_ := Aside0.mk (blk_kept (by first | exact BK172.out | ((with_reducible repeat (first | refine blk_drewN ?_ _ | refine blk_drew ?_ | refine blk_alloc ?_ _)); exact BK172.out)) hkp (fun hs_ => (fun e_ => (Kd.R_ne HO_182000.out BK172.out (by decide)) e_) hs_)); have n7_ := Aside0.mk (blk_kept (by first | exact BK181.out | ((with_reducible repeat (first | refine blk_drewN ?_ _ | refine blk_drew ?_ | refine blk_alloc ?_ _)); exact BK181.out)) hkp (fun hs_ => (fun e_ => (Kd.R_ne HO_182000.out BK181.out (by decide)) e_) hs_)); have n8_ := Aside0.mk (hb); clear HO_169000; clear HO_173000; clear HO_182000; clear BK153; clear BK154; clear BK168; clear BK172; clear BK181; clear HB; have HO_169000 := n0_; have HO_173000 := n1_; have HO_182000 := n2_; have BK153 := n3_; have BK154 := n4_; have BK168 := n5_; have BK172 := n6_; have BK181 := n7_; have HB := n8_; clear n0_ n1_ n2_ n3_ n4_ n5_ n6_ n7_ n8_; (try clear hb); (try clear hkp); (try clear hy0); have hcz130_0 : w129.cell? ⟨gb181, 0, none⟩ = some (.slice Ao57 t177.length co57) := (blk_cell BK181.out 0).trans rfl; have hfz130_0 := blk_frozen BK181.out 0) | ((with_reducible refine gate_callee (f := 26) rfl ?_); refine goesL_ (some 78) rfl rfl Try.func26 (by kernel_rfl) rfl #[.agg #[.slice Ao57 t191.length co57], .int .i64 1] rfl (by (try simp only [List.map_toArray, List.map_cons, List.map_nil]); first | done | (rw [show t191.length = t177.length from (Kd.R_reads' HO_182000.out).1.symm] <;> rfl) | rfl | (simp only [List.length_drop, List.length_take]; rfl)) ?_; (with_reducible refine (laws_heldDisk.calls kj85 _ _ t191 1 t192 _ ?side1 ?side2 A122.out).mono ?_); (case side1 => repeat (first | exact (Kd.R_reads' HO_182000.out).2.2 | (with_reducible refine Kd.C_alloc ?_ _) | (with_reducible refine Kd.C_drewN ?_ _) | (with_reducible refine Kd.C_drew ?_))); (case side2 => rw [show t191.length = t177.length from (Kd.R_reads' HO_182000.out).1.symm]; exact (Kd.R_reads' HO_182000.out).2.1); rintro e w131 ⟨rfl, hb⟩; refine ⟨_, rfl, ?_⟩; have n0_ := Aside0.mk (Kd.R_below (by (with_reducible repeat (first | apply Kd.R_alloc | apply Kd.R_drewN | apply Kd.R_drew)); exact HO_169000.out) hb); have n1_ := Aside0.mk (Kd.R_below (by (with_reducible repeat (first | apply Kd.R_alloc | apply Kd.R_drewN | apply Kd.R_drew)); exact HO_173000.out) hb); have n2_ := Aside0.mk (Kd.R_below (by (with_reducible repeat (first | apply Kd.R_alloc | apply Kd.R_drewN | apply Kd.R_drew)); exact HO_182000.out) hb); have n3_ := Aside0.mk (blk_below (g := gb153) (o := .cells #[.slice A0_0 l0_0.length c0_0] 24 (0, 0)) (by (with_reducible repeat (first | refine blk_drewN ?_ _ | refine blk_drew ?_ | refine blk_alloc ?_ _)); exact BK153.out) hb); have n4_ := Aside0.mk (blk_below (g := gb154) (o := .cells #[.int .i64 a1_0, .string a1_1, .string a1_2, .string a1_3] 37 (0, 0)) (by (with_reducible repeat (first | refine blk_drewN ?_ _ | refine blk_drew ?_ | refine blk_alloc ?_ _)); exact BK154.out) hb); have n5_ := Aside0.mk (blk_below (g := gb168) (o := .cells #[.slice Ao40 t164.length co40] 29 (0, 0)) (by (with_reducible repeat (first | refine blk_drewN ?_ _ | refine blk_drew ?_ | refine blk_alloc ?_ _)); exact BK168.out) hb); have n6_ := Aside0.mk (blk_below (g := gb172) (o := .cells #[.slice Ao46 t188.length co46] 29 (0, 0)) (by (with_reducible repeat (first | refine blk_drewN ?_ _ | refine blk_drew ?_ | refine blk_alloc ?_ _)); exact BK172.out) hb); have n7_ := Aside0.mk (blk_below (g := gb181) (o := .cells #[.slice Ao57 t177.length co57] 29 (0, 0)) (by (with_reducible repeat (first | refine blk_drewN ?_ _ | refine blk_drew ?_ | refine blk_alloc ?_ _)); exact BK181.out) hb); have n8_ := Aside0.mk (below_step (by repeat (first | (with_reducible first | exact HB.out | apply below_alloc | apply pw_below_drewN | apply below_drew1 | refine below_set ?_ GE153.out | refine below_set ?_ GE154.out | refine below_set ?_ GE168.out | refine below_set ?_ GE172.out | refine below_set ?_ GE181.out) | exact HB.out)) hb); clear HO_169000; clear HO_173000; clear HO_182000; clear BK153; clear BK154; clear BK168; clear BK172; clear BK181; clear HB; have HO_169000 := n0_; have HO_173000 := n1_; have HO_182000 := n2_; have BK153 := n3_; have BK154 := n4_; have BK168 := n5_; have BK172 := n6_; have BK181 := n7_; have HB := n8_; clear n0_ n1_ n2_ n3_ n4_ n5_ n6_ n7_ n8_; (try clear hb); (try clear hb2); (try clear hk); (try clear hi)))
           go_ret
           exact ⟨by first | rfl | (simp [errW_none, errW_some] <;> rfl) | (simp [*, errW_none, errW_some] <;> rfl), by repeat (first | (with_reducible first | exact HB.out | apply below_alloc | apply pw_below_drewN | apply below_drew1 | refine below_set ?_ GE153.out | refine below_set ?_ GE154.out | refine below_set ?_ GE168.out | refine below_set ?_ GE172.out | refine below_set ?_ GE181.out) | exact HB.out)⟩
          ·rw [if_neg c123] at H
           have c123b0 : decide (t192 < 0) = false := decide_eq_false c123
           clear c123
           by_cases c132 : t192 = t190
           ·rw [if_pos c132] at H
            have c132b0 : (t192 == t190) = true := beq_iff_eq.mpr c132
            have c132b1 : (t192 != t190) = false := bne_eq_false_iff_eq.mpr c132
            clear c132
            replace H := Option.bind_eq_some_iff.mp H
            obtain ⟨t193, A1330, H⟩ := H
            replace H : ((laws_toAct.f a1_0 a1_1 a1_2 a1_3).bind fun bt196 => ((impl_DoAct.f t193 bt196.1 bt196.2.1 bt196.2.2.1 bt196.2.2.2).bind fun bt200 => ((laws_eqDisk.f kj85 bt200.1 t164).bind fun t205 => (if t205 = true then (laws_FnExactDoAct.j2 kj85 t190 (bt200.2 != t167) t191) else (laws_FnExactDoAct.j2 kj85 t190 true t191))))) = some r := H
            have A133 := Aside0.mk A1330
            clear A1330
            replace H := Option.bind_eq_some_iff.mp H
            obtain ⟨⟨t196, t197, t198, t199⟩, A1340, H⟩ := H
            replace H : ((impl_DoAct.f t193 t196 t197 t198 t199).bind fun bt200 => ((laws_eqDisk.f kj85 bt200.1 t164).bind fun t205 => (if t205 = true then (laws_FnExactDoAct.j2 kj85 t190 (bt200.2 != t167) t191) else (laws_FnExactDoAct.j2 kj85 t190 true t191)))) = some r := H
            have A134 := Aside0.mk A1340
            clear A1340
            replace H := Option.bind_eq_some_iff.mp H
            obtain ⟨⟨t200, t203⟩, A1350, H⟩ := H
            replace H : ((laws_eqDisk.f kj85 t200 t164).bind fun t205 => (if t205 = true then (laws_FnExactDoAct.j2 kj85 t190 (t203 != t167) t191) else (laws_FnExactDoAct.j2 kj85 t190 true t191))) = some r := H
            have A135 := Aside0.mk A1350
            clear A1350
            have HC136 := Aside0.mk H
            clear H
            have hnb137 := NB181_153.out; have hnc137 := NB153_181.out; have hnb138 := NB181_154.out; have hnc138 := NB154_181.out; have hnb139 := NB181_168.out; have hnc139 := NB168_181.out; have hnb140 := NB181_172.out; have hnc140 := NB172_181.out
            have hcz141_0 : wc.cell? ⟨gb181, 0, none⟩ = some (.slice Ao57 t177.length co57) := (blk_cell BK181.out 0).trans rfl
            have hfz141_0 := blk_frozen BK181.out 0
            try go_wp2_with (first | ((with_reducible refine gate_callee (f := 25) rfl ?_); refine goesL_ (some 75) rfl rfl Try.func25 (by kernel_rfl) rfl #[.agg #[.slice Ao57 t177.length co57], .int .i64 1] rfl (by (try simp only [List.map_toArray, List.map_cons, List.map_nil]); first | done | rfl | (simp only [List.length_drop, List.length_take]; rfl)) ?_; (with_reducible refine (laws_markDisk.calls kj85 (fun k_ => some k_ = (.slice Ao57 t177.length co57 : Value).ownBlock) (.slice Ao57 t177.length co57) t177 1 t190 t191 w _ ?side1 ?side2 A121.out).mono ?_); (case side1 => repeat (first | (with_reducible first | exact HB.out | apply below_alloc | apply pw_below_drewN | apply below_drew1 | refine below_set ?_ GE153.out | refine below_set ?_ GE154.out | refine below_set ?_ GE168.out | refine below_set ?_ GE172.out | refine below_set ?_ GE181.out) | exact HB.out)); (case side2 => exact Kd.R_tight rfl HO_182000.out); rintro e w142 ⟨rfl, hy0, hb, hkp⟩; refine ⟨_, rfl, ?_⟩; have n0_ := Aside0.mk (Kd.R_mono (ok' := fun k_ => some k_ ≠ (.slice Ao46 t188.length co46 : Value).ownBlock ∧ some k_ ≠ (.slice Ao57 t177.length co57 : Value).ownBlock) (Kd.R_keptB (HO_169000.out) hkp (fun k_ hk_ hs_ => (hk_.2) hs_)) (fun k_ hk_ => ⟨hk_.1.1, hk_.1.2⟩)); have n1_ := Aside0.mk (Kd.R_mono (ok' := fun k_ => some k_ ≠ (.slice Ao40 t164.length co40 : Value).ownBlock ∧ some k_ ≠ (.slice Ao57 t177.length co57 : Value).ownBlock) (Kd.R_keptB (HO_173000.out) hkp (fun k_ hk_ hs_ => (hk_.2) hs_)) (fun k_ hk_ => ⟨hk_.1.1, hk_.1.2⟩)); have n2_ := Aside0.mk (Kd.R_reok rfl hy0 (fun k_ e_ => HO_182000.out.1 k_ e_)); have n3_ := Aside0.mk (blk_kept (by first | exact BK153.out | ((with_reducible repeat (first | refine blk_drewN ?_ _ | refine blk_drew ?_ | refine blk_alloc ?_ _)); exact BK153.out)) hkp (fun hs_ => (fun e_ => (Kd.R_ne HO_182000.out BK153.out (by decide)) e_) hs_)); have n4_ := Aside0.mk (blk_kept (by first | exact BK154.out | ((with_reducible repeat (first | refine blk_drewN ?_ _ | refine blk_drew ?_ | refine blk_alloc ?_ _)); exact BK154.out)) hkp (fun hs_ => (fun e_ => (Kd.R_ne HO_182000.out BK154.out (by decide)) e_) hs_)); have n5_ := Aside0.mk (blk_kept (by first | exact BK168.out | ((with_reducible repeat (first | refine blk_drewN ?_ _ | refine blk_drew ?_ | refine blk_alloc ?_ _)); exact BK168.out)) hkp (fun hs_ => (fun e_ => (Kd.R_ne HO_182000.out BK168.out (by decide)) e_) hs_)); have n6_ := Aside0.mk (blk_kept (by first | exact BK172.out | ((with_reducible repeat (first | refine blk_drewN ?_ _ | refine blk_drew ?_ | refine blk_alloc ?_ _)); exact BK172.out)) hkp (fun hs_ => (fun e_ => (Kd.R_ne HO_182000.out BK172.out (by decide)) e_) hs_)); have n7_ := Aside0.mk (blk_kept (by first | exact BK181.out | ((with_reducible repeat (first | refine blk_drewN ?_ _ | refine blk_drew ?_ | refine blk_alloc ?_ _)); exact BK181.out)) hkp (fun hs_ => (fun e_ => (Kd.R_ne HO_182000.out BK181.out (by decide)) e_) hs_)); have n8_ := Aside0.mk (hb); clear HO_169000; clear HO_173000; clear HO_182000; clear BK153; clear BK154; clear BK168; clear BK172; clear BK181; clear HB; have HO_169000 := n0_; have HO_173000 := n1_; have HO_182000 := n2_; have BK153 := n3_; have BK154 := n4_; have BK168 := n5_; have BK172 := n6_; have BK181 := n7_; have HB := n8_; clear n0_ n1_ n2_ n3_ n4_ n5_ n6_ n7_ n8_; (try clear hb); (try clear hkp); (try clear hy0); have hcz143_0 : w142.cell? ⟨gb181, 0, none⟩ = some (.slice Ao57 t177.length co57) := (blk_cell BK181.out 0).trans rfl; have hfz143_0 := blk_frozen BK181.out 0) | ((with_reducible refine gate_callee (f := 26) rfl ?_); refine goesL_ (some 78) rfl rfl Try.func26 (by kernel_rfl) rfl #[.agg #[.slice Ao57 t191.length co57], .int .i64 1] rfl (by (try simp only [List.map_toArray, List.map_cons, List.map_nil]); first | done | (rw [show t191.length = t177.length from (Kd.R_reads' HO_182000.out).1.symm] <;> rfl) | rfl | (simp only [List.length_drop, List.length_take]; rfl)) ?_; (with_reducible refine (laws_heldDisk.calls kj85 _ _ t191 1 t192 _ ?side1 ?side2 A122.out).mono ?_); (case side1 => repeat (first | exact (Kd.R_reads' HO_182000.out).2.2 | (with_reducible refine Kd.C_alloc ?_ _) | (with_reducible refine Kd.C_drewN ?_ _) | (with_reducible refine Kd.C_drew ?_))); (case side2 => rw [show t191.length = t177.length from (Kd.R_reads' HO_182000.out).1.symm]; exact (Kd.R_reads' HO_182000.out).2.1); rintro e w144 ⟨rfl, hb⟩; refine ⟨_, rfl, ?_⟩; have n0_ := Aside0.mk (Kd.R_below (by (with_reducible repeat (first | apply Kd.R_alloc | apply Kd.R_drewN | apply Kd.R_drew)); exact HO_169000.out) hb); have n1_ := Aside0.mk (Kd.R_below (by (with_reducible repeat (first | apply Kd.R_alloc | apply Kd.R_drewN | apply Kd.R_drew)); exact HO_173000.out) hb); have n2_ := Aside0.mk (Kd.R_below (by (with_reducible repeat (first | apply Kd.R_alloc | apply Kd.R_drewN | apply Kd.R_drew)); exact HO_182000.out) hb); have n3_ := Aside0.mk (blk_below (g := gb153) (o := .cells #[.slice A0_0 l0_0.length c0_0] 24 (0, 0)) (by (with_reducible repeat (first | refine blk_drewN ?_ _ | refine blk_drew ?_ | refine blk_alloc ?_ _)); exact BK153.out) hb); have n4_ := Aside0.mk (blk_below (g := gb154) (o := .cells #[.int .i64 a1_0, .string a1_1, .string a1_2, .string a1_3] 37 (0, 0)) (by (with_reducible repeat (first | refine blk_drewN ?_ _ | refine blk_drew ?_ | refine blk_alloc ?_ _)); exact BK154.out) hb); have n5_ := Aside0.mk (blk_below (g := gb168) (o := .cells #[.slice Ao40 t164.length co40] 29 (0, 0)) (by (with_reducible repeat (first | refine blk_drewN ?_ _ | refine blk_drew ?_ | refine blk_alloc ?_ _)); exact BK168.out) hb); have n6_ := Aside0.mk (blk_below (g := gb172) (o := .cells #[.slice Ao46 t188.length co46] 29 (0, 0)) (by (with_reducible repeat (first | refine blk_drewN ?_ _ | refine blk_drew ?_ | refine blk_alloc ?_ _)); exact BK172.out) hb); have n7_ := Aside0.mk (blk_below (g := gb181) (o := .cells #[.slice Ao57 t177.length co57] 29 (0, 0)) (by (with_reducible repeat (first | refine blk_drewN ?_ _ | refine blk_drew ?_ | refine blk_alloc ?_ _)); exact BK181.out) hb); have n8_ := Aside0.mk (below_step (by repeat (first | (with_reducible first | exact HB.out | apply below_alloc | apply pw_below_drewN | apply below_drew1 | refine below_set ?_ GE153.out | refine below_set ?_ GE154.out | refine below_set ?_ GE168.out | refine below_set ?_ GE172.out | refine below_set ?_ GE181.out) | exact HB.out)) hb); clear HO_169000; clear HO_173000; clear HO_182000; clear BK153; clear BK154; clear BK168; clear BK172; clear BK181; clear HB; have HO_169000 := n0_; have HO_173000 := n1_; have HO_182000 := n2_; have BK153 := n3_; have BK154 := n4_; have BK168 := n5_; have BK172 := n6_; have BK181 := n7_; have HB := n8_; clear n0_ n1_ n2_ n3_ n4_ n5_ n6_ n7_ n8_; (try clear hb); (try clear hb2); (try clear hk); (try clear hi)))
            have n0_ := Aside0.mk (Kd.R_drew HO_169000.out)
            have n1_ := Aside0.mk (Kd.R_drew HO_173000.out)
            have n2_ := Aside0.mk (Kd.R_drew HO_182000.out)
            have n3_ := Aside0.mk (blk_drew BK153.out)
            have n4_ := Aside0.mk (blk_drew BK154.out)
            have n5_ := Aside0.mk (blk_drew BK168.out)
            have n6_ := Aside0.mk (blk_drew BK172.out)
            have n7_ := Aside0.mk (blk_drew BK181.out)
            have n8_ := Aside0.mk (below_drew1 HB.out)
            clear HO_169000 HO_173000 HO_182000 BK153 BK154 BK168 BK172 BK181 HB
            have HO_169000 := n0_; have HO_173000 := n1_; have HO_182000 := n2_; have BK153 := n3_; have BK154 := n4_; have BK168 := n5_; have BK172 := n6_; have BK181 := n7_; have HB := n8_
            clear n0_ n1_ n2_ n3_ n4_ n5_ n6_ n7_ n8_
            refine start_ (n := 11) (S := fun w' => w'.cell? ⟨gb153, 0, none⟩ = some (.slice A0_0 l0_0.length c0_0) ∧ w'.cell? ⟨gb154, 0, none⟩ = some (.int .i64 a1_0) ∧ w'.cell? ⟨gb154, 1, none⟩ = some (.string a1_1) ∧ w'.cell? ⟨gb154, 2, none⟩ = some (.string a1_2) ∧ w'.cell? ⟨gb154, 3, none⟩ = some (.string a1_3)) (ds := []) #[false, false, false, false, false, false, false, false, false, false, false] (by kernel_rfl) rfl rfl ⟨(blk_cell BK153.out 0).trans rfl, (blk_cell BK154.out 0).trans rfl, (blk_cell BK154.out 1).trans rfl, (blk_cell BK154.out 2).trans rfl, (blk_cell BK154.out 3).trans rfl⟩ (fun hHeld => ?_); refine with_tabW laws_FnExactDoAct.tab27 laws_FnExactDoAct.bits27 (fun HT_ HW_ => ?_)
            generalize w144.drew = w145 at HO_169000 HO_173000 HO_182000 BK153 BK154 BK168 BK172 BK181 HB hHeld ⊢
            refine take_ (i := 0) (N := some 85) (v := ?_) (a' := ?_) #[true, false, false, false, false, false, false, false, false, false, false] rfl rfl (take_ofW HT_.out HW_.out (by kernel_rfl)) (fun _ _ _ h => h) (Or.inl ⟨by rfl, ?_⟩) hHeld ?_ ?_
            rotate_left
            ·rintro w' ⟨s0, s1, s2, s3, s4⟩
             go_simp
             with_reducible rfl
            rotate_left
            ·simp only [Act.put, List.setIfInBounds_toArray, List.set_cons_zero, List.set_cons_succ, i64_w, i32_w]
             rfl
            refine take_ (i := 2) (N := some 87) (v := ?_) (a' := ?_) #[true, false, true, false, false, false, false, false, false, false, false] rfl rfl (take_ofW HT_.out HW_.out (by kernel_rfl)) (fun _ _ _ h => h) (Or.inl ⟨by rfl, ?_⟩) hHeld ?_ ?_
            rotate_left
            ·rintro w' ⟨s0, s1, s2, s3, s4⟩
             go_simp
             with_reducible rfl
            rotate_left
            ·simp only [Act.put, List.setIfInBounds_toArray, List.set_cons_zero, List.set_cons_succ, i64_w, i32_w]
             rfl
            refine join_ (σ := Value × Value × Nat) 2 #[true, true, true, true, true, true, true, true, true, false, false] (fun s_ => [(86, .agg #[s_.1]), (88, .agg #[.int .i64 t196, .string t197, .string t198, .string t199]), (89, .tuple #[.agg #[s_.2.1], .bool t203]), (14, .pointer (some ⟨s_.2.2, 0, none⟩)), (84, .tuple #[.agg #[s_.2.1], .bool t203]), (90, .agg #[s_.2.1]), (91, .bool t203)]) (fun s_ w' => (w'.cell? ⟨gb153, 0, none⟩ = some (.slice A0_0 l0_0.length c0_0) ∧ w'.cell? ⟨gb154, 0, none⟩ = some (.int .i64 a1_0) ∧ w'.cell? ⟨gb154, 1, none⟩ = some (.string a1_1) ∧ w'.cell? ⟨gb154, 2, none⟩ = some (.string a1_2) ∧ w'.cell? ⟨gb154, 3, none⟩ = some (.string a1_3)) ∧ (Kd.R k67 67 w' w.heap.size (fun k_ => some k_ ≠ (s_.2.1 : Value).ownBlock ∧ some k_ ≠ (.slice Ao40 t164.length co40 : Value).ownBlock ∧ some k_ ≠ (.slice Ao46 t188.length co46 : Value).ownBlock ∧ some k_ ≠ (.slice Ao57 t177.length co57 : Value).ownBlock) s_.1 t193) ∧ (Kd.R k67 67 w' w.heap.size (fun k_ => some k_ ≠ (s_.1 : Value).ownBlock ∧ some k_ ≠ (.slice Ao40 t164.length co40 : Value).ownBlock ∧ some k_ ≠ (.slice Ao46 t188.length co46 : Value).ownBlock ∧ some k_ ≠ (.slice Ao57 t177.length co57 : Value).ownBlock) s_.2.1 t200) ∧ (Kd.R k67 67 w' w.heap.size (fun k_ => some k_ ≠ (s_.1 : Value).ownBlock ∧ some k_ ≠ (s_.2.1 : Value).ownBlock ∧ some k_ ≠ (.slice Ao46 t188.length co46 : Value).ownBlock ∧ some k_ ≠ (.slice Ao57 t177.length co57 : Value).ownBlock) (.slice Ao40 t164.length co40) t164) ∧ (Kd.R k67 67 w' w.heap.size (fun k_ => some k_ ≠ (s_.1 : Value).ownBlock ∧ some k_ ≠ (s_.2.1 : Value).ownBlock ∧ some k_ ≠ (.slice Ao40 t164.length co40 : Value).ownBlock ∧ some k_ ≠ (.slice Ao57 t177.length co57 : Value).ownBlock) (.slice Ao46 t188.length co46) t188) ∧ (Kd.R k67 67 w' w.heap.size (fun k_ => some k_ ≠ (s_.1 : Value).ownBlock ∧ some k_ ≠ (s_.2.1 : Value).ownBlock ∧ some k_ ≠ (.slice Ao40 t164.length co40 : Value).ownBlock ∧ some k_ ≠ (.slice Ao46 t188.length co46 : Value).ownBlock) (.slice Ao57 t177.length co57) t191) ∧ (w'.heap[gb153]? = some (.cells #[.slice A0_0 l0_0.length c0_0] 24 (0, 0))) ∧ (w'.heap[gb154]? = some (.cells #[.int .i64 a1_0, .string a1_1, .string a1_2, .string a1_3] 37 (0, 0))) ∧ (w'.heap[gb168]? = some (.cells #[.slice Ao40 t164.length co40] 29 (0, 0))) ∧ (w'.heap[gb172]? = some (.cells #[.slice Ao46 t188.length co46] 29 (0, 0))) ∧ (w'.heap[gb181]? = some (.cells #[.slice Ao57 t177.length co57] 29 (0, 0))) ∧ (w'.heap[s_.2.2]? = some (.cells #[.slice none 0 0] 29 (0, 0))) ∧ (w.heap.size ≤ s_.2.2) ∧ (w.heap.size ≤ s_.2.2) ∧ (gb153 ≠ s_.2.2) ∧ (s_.2.2 ≠ gb153) ∧ (gb154 ≠ s_.2.2) ∧ (s_.2.2 ≠ gb154) ∧ (gb168 ≠ s_.2.2) ∧ (s_.2.2 ≠ gb168) ∧ (gb172 ≠ s_.2.2) ∧ (s_.2.2 ≠ gb172) ∧ (gb181 ≠ s_.2.2) ∧ (s_.2.2 ≠ gb181) ∧ (Below w.heap.size w w')) ?_ ?_
            rotate_left
            ·intro hCont
             refine two_ (i := 1) (j := 8) (Ni := some 86) (Nj := some 14) #[true, true, true, false, false, false, false, false, false, false, false] #[true, false, true, false, false, false, false, false, true, false, false] rfl rfl rfl rfl (two_of HT_.out (by kernel_rfl)) (by decide) (by decide) (fun K hK => ?_) (fun K hK => ?_)
             ·skip
              refine goes_ Try.func14 (by kernel_rfl) rfl #[.agg #[.slice A0_0 l0_0.length c0_0]] (by rfl) rfl rfl (by (try simp only [List.map_toArray, List.map_cons, List.map_nil]); first | done | rfl | (simp only [List.length_drop, List.length_take]; rfl)) ?_
              with_reducible refine (laws_toDisk.calls kj85 _ _ l0_0 t193 _ ?side1 ?side2 A133.out).mono ?_
              (case side1 => repeat (first | exact (Kd.C_below HR0_0.out HB.out) | (with_reducible refine Kd.C_alloc ?_ _) | (with_reducible refine Kd.C_drewN ?_ _) | (with_reducible refine Kd.C_drew ?_)))
              (case side2 => exact HC0_0.out)
              rintro e w146 ⟨v194, rfl, ho0, hb⟩
              refine ⟨_, rfl, ?_⟩
              have n0_ := Aside0.mk (Kd.R_elder' HO_169000.out (Kd.R_base ho0) hb)
              have n1_ := Aside0.mk (Kd.R_elder' HO_173000.out (Kd.R_base ho0) hb)
              have n2_ := Aside0.mk (Kd.R_elder' HO_182000.out (Kd.R_base ho0) hb)
              have n3_ := Aside0.mk (Kd.R_lower (Kd.R_new' (Kd.R_new' (Kd.R_new' ho0 (Kd.R_lt HO_169000.out)) (Kd.R_lt HO_173000.out)) (Kd.R_lt HO_182000.out)) (below_size HB.out))
              have n4_ := Aside0.mk (blk_below BK153.out hb)
              have n5_ := Aside0.mk (blk_below BK154.out hb)
              have n6_ := Aside0.mk (blk_below BK168.out hb)
              have n7_ := Aside0.mk (blk_below BK172.out hb)
              have n8_ := Aside0.mk (blk_below BK181.out hb)
              have n9_ := Aside0.mk (below_step HB.out hb)
              clear HO_169000 HO_173000 HO_182000 BK153 BK154 BK168 BK172 BK181 HB
              have HO_169000 := n0_; have HO_173000 := n1_; have HO_182000 := n2_; have HO195 := n3_; have BK153 := n4_; have BK154 := n5_; have BK168 := n6_; have BK172 := n7_; have BK181 := n8_; have HB := n9_
              clear n0_ n1_ n2_ n3_ n4_ n5_ n6_ n7_ n8_ n9_
              (try clear hb); (try clear hb2); (try clear hk); (try clear hi); (try clear ho0)
              refine hK.out _ _ ⟨(blk_cell BK153.out 0).trans rfl, (blk_cell BK154.out 0).trans rfl, (blk_cell BK154.out 1).trans rfl, (blk_cell BK154.out 2).trans rfl, (blk_cell BK154.out 3).trans rfl⟩ (fun hHeld => ?_)
              clear hK K
              refine norm_ (a' := ?_) ?_ ?_
              rotate_left
              ·show Act.put _ (some 86) _ = _
               simp only [Act.put, List.setIfInBounds_toArray, List.set_cons_zero, List.set_cons_succ, i64_w, i32_w]
               rfl
              refine two_ (i := 3) (j := 8) (Ni := some 88) (Nj := some 14) #[true, true, true, true, false, false, false, false, false, false, false] #[true, true, true, false, false, false, false, false, true, false, false] rfl rfl rfl rfl (two_of HT_.out (by kernel_rfl)) (by decide) (by decide) (fun K hK => ?_) (fun K hK => ?_)
              ·skip
               refine goes_ Try.func23 (by kernel_rfl) rfl #[.agg #[.int .i64 a1_0, .string a1_1, .string a1_2, .string a1_3]] (by rfl) rfl rfl (by (try simp only [List.map_toArray, List.map_cons, List.map_nil]); first | done | rfl | (simp only [List.length_drop, List.length_take]; rfl)) ?_
               with_reducible refine (laws_toAct.calls a1_0 a1_1 a1_2 a1_3 t196 t197 t198 t199 _ A134.out).mono ?_
               rintro e w147 ⟨rfl, hb⟩
               refine ⟨_, rfl, ?_⟩
               have n0_ := Aside0.mk (Kd.R_below HO_169000.out hb)
               have n1_ := Aside0.mk (Kd.R_below HO_173000.out hb)
               have n2_ := Aside0.mk (Kd.R_below HO_182000.out hb)
               have n3_ := Aside0.mk (Kd.R_below HO195.out hb)
               have n4_ := Aside0.mk (blk_below BK153.out hb)
               have n5_ := Aside0.mk (blk_below BK154.out hb)
               have n6_ := Aside0.mk (blk_below BK168.out hb)
               have n7_ := Aside0.mk (blk_below BK172.out hb)
               have n8_ := Aside0.mk (blk_below BK181.out hb)
               have n9_ := Aside0.mk (below_step HB.out hb)
               clear HO_169000 HO_173000 HO_182000 HO195 BK153 BK154 BK168 BK172 BK181 HB
               have HO_169000 := n0_; have HO_173000 := n1_; have HO_182000 := n2_; have HO195 := n3_; have BK153 := n4_; have BK154 := n5_; have BK168 := n6_; have BK172 := n7_; have BK181 := n8_; have HB := n9_
               clear n0_ n1_ n2_ n3_ n4_ n5_ n6_ n7_ n8_ n9_
               (try clear hb); (try clear hb2); (try clear hk); (try clear hi)
               obtain ⟨Ao148, co148, eo148⟩ := Kd.R_slice HO195.out
               (first | subst eo148 | (injection eo148 with f1_ f2_ f3_; have f4_ := f1_.symm; have f5_ := f3_.symm; clear f1_ f2_ f3_; subst f4_; subst f5_))
               refine hK.out _ _ ⟨(blk_cell BK153.out 0).trans rfl, (blk_cell BK154.out 0).trans rfl, (blk_cell BK154.out 1).trans rfl, (blk_cell BK154.out 2).trans rfl, (blk_cell BK154.out 3).trans rfl⟩ (fun hHeld => ?_)
               clear hK K
               refine norm_ (a' := ?_) ?_ ?_
               rotate_left
               ·show Act.put _ (some 88) _ = _
                simp only [Act.put, List.setIfInBounds_toArray, List.set_cons_zero, List.set_cons_succ, i64_w, i32_w]
                rfl
               refine two_ (i := 4) (j := 8) (Ni := some 89) (Nj := some 14) #[true, true, true, true, true, false, false, false, false, false, false] #[true, true, true, true, false, false, false, false, true, false, false] rfl rfl rfl rfl (two_of HT_.out (by kernel_rfl)) (by decide) (by decide) (fun K hK => ?_) (fun K hK => ?_)
               ·skip
                refine goes_ Try.func24 (by kernel_rfl) rfl #[.agg #[.slice Ao148 t193.length co148], .agg #[.int .i64 t196, .string t197, .string t198, .string t199]] (by rfl) rfl rfl (by (try simp only [List.map_toArray, List.map_cons, List.map_nil]); first | done | rfl | (simp only [List.length_drop, List.length_take]; rfl)) ?_
                with_reducible refine (impl_DoAct.calls _ _ t193 t196 t197 t198 t199 t200 t203 _ ?side1 ?side2 A135.out).mono ?_
                (case side1 => repeat (first | exact (Kd.R_reads' HO195.out).2.2 | (with_reducible refine Kd.C_alloc ?_ _) | (with_reducible refine Kd.C_drewN ?_ _) | (with_reducible refine Kd.C_drew ?_)))
                (case side2 => exact (Kd.R_reads' HO195.out).2.1)
                rintro e w149 ⟨v201, rfl, ho0, hb⟩
                refine ⟨_, rfl, ?_⟩
                have n0_ := Aside0.mk (Kd.R_elder' HO_169000.out (Kd.R_base ho0) hb)
                have n1_ := Aside0.mk (Kd.R_elder' HO_173000.out (Kd.R_base ho0) hb)
                have n2_ := Aside0.mk (Kd.R_elder' HO_182000.out (Kd.R_base ho0) hb)
                have n3_ := Aside0.mk (Kd.R_elder' HO195.out (Kd.R_base ho0) hb)
                have n4_ := Aside0.mk (Kd.R_lower (Kd.R_new' (Kd.R_new' (Kd.R_new' (Kd.R_new' ho0 (Kd.R_lt HO_169000.out)) (Kd.R_lt HO_173000.out)) (Kd.R_lt HO_182000.out)) (Kd.R_lt HO195.out)) (below_size HB.out))
                have n5_ := Aside0.mk (blk_below BK153.out hb)
                have n6_ := Aside0.mk (blk_below BK154.out hb)
                have n7_ := Aside0.mk (blk_below BK168.out hb)
                have n8_ := Aside0.mk (blk_below BK172.out hb)
                have n9_ := Aside0.mk (blk_below BK181.out hb)
                have n10_ := Aside0.mk (below_step HB.out hb)
                clear HO_169000 HO_173000 HO_182000 HO195 BK153 BK154 BK168 BK172 BK181 HB
                have HO_169000 := n0_; have HO_173000 := n1_; have HO_182000 := n2_; have HO195 := n3_; have HO202 := n4_; have BK153 := n5_; have BK154 := n6_; have BK168 := n7_; have BK172 := n8_; have BK181 := n9_; have HB := n10_
                clear n0_ n1_ n2_ n3_ n4_ n5_ n6_ n7_ n8_ n9_ n10_
                (try clear hb); (try clear hb2); (try clear hk); (try clear hi); (try clear ho0)
                refine hK.out _ _ ⟨(blk_cell BK153.out 0).trans rfl, (blk_cell BK154.out 0).trans rfl, (blk_cell BK154.out 1).trans rfl, (blk_cell BK154.out 2).trans rfl, (blk_cell BK154.out 3).trans rfl⟩ (fun hHeld => ?_)
                clear hK K
                refine norm_ (a' := ?_) ?_ ?_
                rotate_left
                ·show Act.put _ (some 89) _ = _
                 simp only [Act.put, List.setIfInBounds_toArray, List.set_cons_zero, List.set_cons_succ, i64_w, i32_w]
                 rfl
                refine pure_ (i := 5) (N := some 84) (v := ?_) (a' := ?_) #[true, true, true, true, true, true, false, false, false, false, false] rfl rfl (any_of HT_.out (by kernel_rfl)) (fun _ _ _ h => h) (Or.inl ⟨by rfl, ?_⟩) ?_ ?_
                rotate_left
                ·intro w'
                 go_simp
                 with_reducible rfl
                rotate_left
                ·simp only [Act.put, List.setIfInBounds_toArray, List.set_cons_zero, List.set_cons_succ, i64_w, i32_w]
                 rfl
                refine pure_ (i := 6) (N := some 90) (v := ?_) (a' := ?_) #[true, true, true, true, true, true, true, false, false, false, false] rfl rfl (any_of HT_.out (by kernel_rfl)) (fun _ _ _ h => h) (Or.inl ⟨by rfl, ?_⟩) ?_ ?_
                rotate_left
                ·intro w'
                 go_simp
                 with_reducible rfl
                rotate_left
                ·simp only [Act.put, List.setIfInBounds_toArray, List.set_cons_zero, List.set_cons_succ, i64_w, i32_w]
                 rfl
                refine pure_ (i := 7) (N := some 91) (v := ?_) (a' := ?_) #[true, true, true, true, true, true, true, true, false, false, false] rfl rfl (any_of HT_.out (by kernel_rfl)) (fun _ _ _ h => h) (Or.inl ⟨by rfl, ?_⟩) ?_ ?_
                rotate_left
                ·intro w'
                 go_simp
                 with_reducible rfl
                rotate_left
                ·simp only [Act.put, List.setIfInBounds_toArray, List.set_cons_zero, List.set_cons_succ, i64_w, i32_w]
                 rfl
                refine one_ (i := 8) (N := some 14) #[true, true, true, true, true, true, true, true, true, false, false] rfl rfl (one_of HT_.out (by kernel_rfl)) (by decide) (fun K hK => ?_)
                refine box_step ?hg (N := 14) ?hd (cs := #[.slice none 0 0]) (t := 29) ?hr ?_; (case hd => rfl); (case hg => rfl); (case hr => first | (go_simp; done) | (go_simp; rfl))
                intro gb204 hg w150 hbox hb
                have n0_ := Aside0.mk (Kd.R_below HO_169000.out hb)
                have n1_ := Aside0.mk (Kd.R_below HO_173000.out hb)
                have n2_ := Aside0.mk (Kd.R_below HO_182000.out hb)
                have n3_ := Aside0.mk (Kd.R_below HO195.out hb)
                have n4_ := Aside0.mk (Kd.R_below HO202.out hb)
                have n5_ := Aside0.mk (blk_below BK153.out hb)
                have n6_ := Aside0.mk (blk_below BK154.out hb)
                have n7_ := Aside0.mk (blk_below BK168.out hb)
                have n8_ := Aside0.mk (blk_below BK172.out hb)
                have n9_ := Aside0.mk (blk_below BK181.out hb)
                have n10_ := Aside0.mk (below_step HB.out hb)
                have n11_ := Aside0.mk (hbox)
                have n12_ := Aside0.mk ((by rw [hg]; exact (below_size HB.out) : w.heap.size ≤ gb204))
                have n13_ := Aside0.mk ((by rw [hg]; exact (below_size HB.out) : w.heap.size ≤ gb204))
                have n14_ := Aside0.mk ((by rw [hg]; exact Nat.ne_of_lt (blk_lt BK153.out) : gb153 ≠ gb204))
                have n15_ := Aside0.mk ((by rw [hg]; exact Nat.ne_of_gt (blk_lt BK153.out) : gb204 ≠ gb153))
                have n16_ := Aside0.mk ((by rw [hg]; exact Nat.ne_of_lt (blk_lt BK154.out) : gb154 ≠ gb204))
                have n17_ := Aside0.mk ((by rw [hg]; exact Nat.ne_of_gt (blk_lt BK154.out) : gb204 ≠ gb154))
                have n18_ := Aside0.mk ((by rw [hg]; exact Nat.ne_of_lt (blk_lt BK168.out) : gb168 ≠ gb204))
                have n19_ := Aside0.mk ((by rw [hg]; exact Nat.ne_of_gt (blk_lt BK168.out) : gb204 ≠ gb168))
                have n20_ := Aside0.mk ((by rw [hg]; exact Nat.ne_of_lt (blk_lt BK172.out) : gb172 ≠ gb204))
                have n21_ := Aside0.mk ((by rw [hg]; exact Nat.ne_of_gt (blk_lt BK172.out) : gb204 ≠ gb172))
                have n22_ := Aside0.mk ((by rw [hg]; exact Nat.ne_of_lt (blk_lt BK181.out) : gb181 ≠ gb204))
                have n23_ := Aside0.mk ((by rw [hg]; exact Nat.ne_of_gt (blk_lt BK181.out) : gb204 ≠ gb181))
                clear HO_169000 HO_173000 HO_182000 HO195 HO202 BK153 BK154 BK168 BK172 BK181 HB
                have HO_169000 := n0_; have HO_173000 := n1_; have HO_182000 := n2_; have HO195 := n3_; have HO202 := n4_; have BK153 := n5_; have BK154 := n6_; have BK168 := n7_; have BK172 := n8_; have BK181 := n9_; have HB := n10_; have BK204 := n11_; have GW204 := n12_; have GE204 := n13_; have NB153_204 := n14_; have NB204_153 := n15_; have NB154_204 := n16_; have NB204_154 := n17_; have NB168_204 := n18_; have NB204_168 := n19_; have NB172_204 := n20_; have NB204_172 := n21_; have NB181_204 := n22_; have NB204_181 := n23_
                clear n0_ n1_ n2_ n3_ n4_ n5_ n6_ n7_ n8_ n9_ n10_ n11_ n12_ n13_ n14_ n15_ n16_ n17_ n18_ n19_ n20_ n21_ n22_ n23_ hb hbox hg
                refine hK.out _ _ ⟨(blk_cell BK153.out 0).trans rfl, (blk_cell BK154.out 0).trans rfl, (blk_cell BK154.out 1).trans rfl, (blk_cell BK154.out 2).trans rfl, (blk_cell BK154.out 3).trans rfl⟩ (fun hHeld => ?_)
                clear hK K
                refine norm_ (a' := ?_) ?_ ?_
                rotate_left
                ·show Act.put _ (some 14) _ = _
                 simp only [Act.put, List.setIfInBounds_toArray, List.set_cons_zero, List.set_cons_succ, i64_w, i32_w]
                 rfl
                exact norm_ (by simp only [putAll, Act.put, List.setIfInBounds_toArray, List.set_cons_zero, List.set_cons_succ]) (hCont (.slice Ao148 t193.length co148, v201, gb204) _ ⟨hHeld, (Kd.R_mono HO195.out (fun _ hk => ⟨hk.2, ⟨hk.1.1.1.2, ⟨hk.1.1.2, hk.1.2⟩⟩⟩)), (Kd.R_mono HO202.out (fun _ hk => ⟨hk.2, ⟨hk.1.1.1.2, ⟨hk.1.1.2, hk.1.2⟩⟩⟩)), (Kd.R_mono HO_169000.out (fun _ hk => ⟨hk.1.2, ⟨hk.2, ⟨hk.1.1.1, hk.1.1.2⟩⟩⟩)), (Kd.R_mono HO_173000.out (fun _ hk => ⟨hk.1.2, ⟨hk.2, ⟨hk.1.1.1, hk.1.1.2⟩⟩⟩)), (Kd.R_mono HO_182000.out (fun _ hk => ⟨hk.1.2, ⟨hk.2, ⟨hk.1.1.1, hk.1.1.2⟩⟩⟩)), BK153.out, BK154.out, BK168.out, BK172.out, BK181.out, BK204.out, GW204.out, GE204.out, NB153_204.out, NB204_153.out, NB154_204.out, NB204_154.out, NB168_204.out, NB204_168.out, NB172_204.out, NB204_172.out, NB181_204.out, NB204_181.out, HB.out⟩)
               ·skip
                refine box_step ?hg (N := 14) ?hd (cs := #[.slice none 0 0]) (t := 29) ?hr ?_; (case hd => rfl); (case hg => rfl); (case hr => first | (go_simp; done) | (go_simp; rfl))
                intro gb204 hg w148 hbox hb
                have n0_ := Aside0.mk (Kd.R_below HO_169000.out hb)
                have n1_ := Aside0.mk (Kd.R_below HO_173000.out hb)
                have n2_ := Aside0.mk (Kd.R_below HO_182000.out hb)
                have n3_ := Aside0.mk (Kd.R_below HO195.out hb)
                have n4_ := Aside0.mk (blk_below BK153.out hb)
                have n5_ := Aside0.mk (blk_below BK154.out hb)
                have n6_ := Aside0.mk (blk_below BK168.out hb)
                have n7_ := Aside0.mk (blk_below BK172.out hb)
                have n8_ := Aside0.mk (blk_below BK181.out hb)
                have n9_ := Aside0.mk (below_step HB.out hb)
                have n10_ := Aside0.mk (hbox)
                have n11_ := Aside0.mk ((by rw [hg]; exact (below_size HB.out) : w.heap.size ≤ gb204))
                have n12_ := Aside0.mk ((by rw [hg]; exact (below_size HB.out) : w.heap.size ≤ gb204))
                have n13_ := Aside0.mk ((by rw [hg]; exact Nat.ne_of_lt (blk_lt BK153.out) : gb153 ≠ gb204))
                have n14_ := Aside0.mk ((by rw [hg]; exact Nat.ne_of_gt (blk_lt BK153.out) : gb204 ≠ gb153))
                have n15_ := Aside0.mk ((by rw [hg]; exact Nat.ne_of_lt (blk_lt BK154.out) : gb154 ≠ gb204))
                have n16_ := Aside0.mk ((by rw [hg]; exact Nat.ne_of_gt (blk_lt BK154.out) : gb204 ≠ gb154))
                have n17_ := Aside0.mk ((by rw [hg]; exact Nat.ne_of_lt (blk_lt BK168.out) : gb168 ≠ gb204))
                have n18_ := Aside0.mk ((by rw [hg]; exact Nat.ne_of_gt (blk_lt BK168.out) : gb204 ≠ gb168))
                have n19_ := Aside0.mk ((by rw [hg]; exact Nat.ne_of_lt (blk_lt BK172.out) : gb172 ≠ gb204))
                have n20_ := Aside0.mk ((by rw [hg]; exact Nat.ne_of_gt (blk_lt BK172.out) : gb204 ≠ gb172))
                have n21_ := Aside0.mk ((by rw [hg]; exact Nat.ne_of_lt (blk_lt BK181.out) : gb181 ≠ gb204))
                have n22_ := Aside0.mk ((by rw [hg]; exact Nat.ne_of_gt (blk_lt BK181.out) : gb204 ≠ gb181))
                clear HO_169000 HO_173000 HO_182000 HO195 BK153 BK154 BK168 BK172 BK181 HB
                have HO_169000 := n0_; have HO_173000 := n1_; have HO_182000 := n2_; have HO195 := n3_; have BK153 := n4_; have BK154 := n5_; have BK168 := n6_; have BK172 := n7_; have BK181 := n8_; have HB := n9_; have BK204 := n10_; have GW204 := n11_; have GE204 := n12_; have NB153_204 := n13_; have NB204_153 := n14_; have NB154_204 := n15_; have NB204_154 := n16_; have NB168_204 := n17_; have NB204_168 := n18_; have NB172_204 := n19_; have NB204_172 := n20_; have NB181_204 := n21_; have NB204_181 := n22_
                clear n0_ n1_ n2_ n3_ n4_ n5_ n6_ n7_ n8_ n9_ n10_ n11_ n12_ n13_ n14_ n15_ n16_ n17_ n18_ n19_ n20_ n21_ n22_ hb hbox hg
                obtain ⟨Ao149, co149, eo149⟩ := Kd.R_slice HO195.out
                (first | subst eo149 | (injection eo149 with f1_ f2_ f3_; have f4_ := f1_.symm; have f5_ := f3_.symm; clear f1_ f2_ f3_; subst f4_; subst f5_))
                refine hK.out _ _ ⟨(blk_cell BK153.out 0).trans rfl, (blk_cell BK154.out 0).trans rfl, (blk_cell BK154.out 1).trans rfl, (blk_cell BK154.out 2).trans rfl, (blk_cell BK154.out 3).trans rfl⟩ (fun hHeld => ?_)
                clear hK K
                refine norm_ (a' := ?_) ?_ ?_
                rotate_left
                ·show Act.put _ (some 14) _ = _
                 simp only [Act.put, List.setIfInBounds_toArray, List.set_cons_zero, List.set_cons_succ, i64_w, i32_w]
                 rfl
                refine one_ (i := 4) (N := some 89) #[true, true, true, true, true, false, false, false, true, false, false] rfl rfl (one_of HT_.out (by kernel_rfl)) (by decide) (fun K hK => ?_)
                refine goes_ Try.func24 (by kernel_rfl) rfl #[.agg #[.slice Ao149 t193.length co149], .agg #[.int .i64 t196, .string t197, .string t198, .string t199]] (by rfl) rfl rfl (by (try simp only [List.map_toArray, List.map_cons, List.map_nil]); first | done | rfl | (simp only [List.length_drop, List.length_take]; rfl)) ?_
                with_reducible refine (impl_DoAct.calls _ _ t193 t196 t197 t198 t199 t200 t203 _ ?side1 ?side2 A135.out).mono ?_
                (case side1 => repeat (first | exact (Kd.R_reads' HO195.out).2.2 | (with_reducible refine Kd.C_alloc ?_ _) | (with_reducible refine Kd.C_drewN ?_ _) | (with_reducible refine Kd.C_drew ?_)))
                (case side2 => exact (Kd.R_reads' HO195.out).2.1)
                rintro e w150 ⟨v201, rfl, ho0, hb⟩
                refine ⟨_, rfl, ?_⟩
                have n0_ := Aside0.mk (Kd.R_elder' HO_169000.out (Kd.R_base ho0) hb)
                have n1_ := Aside0.mk (Kd.R_elder' HO_173000.out (Kd.R_base ho0) hb)
                have n2_ := Aside0.mk (Kd.R_elder' HO_182000.out (Kd.R_base ho0) hb)
                have n3_ := Aside0.mk (Kd.R_elder' HO195.out (Kd.R_base ho0) hb)
                have n4_ := Aside0.mk (Kd.R_lower (Kd.R_new' (Kd.R_new' (Kd.R_new' (Kd.R_new' ho0 (Kd.R_lt HO_169000.out)) (Kd.R_lt HO_173000.out)) (Kd.R_lt HO_182000.out)) (Kd.R_lt HO195.out)) (below_size HB.out))
                have n5_ := Aside0.mk (blk_below BK153.out hb)
                have n6_ := Aside0.mk (blk_below BK154.out hb)
                have n7_ := Aside0.mk (blk_below BK168.out hb)
                have n8_ := Aside0.mk (blk_below BK172.out hb)
                have n9_ := Aside0.mk (blk_below BK181.out hb)
                have n10_ := Aside0.mk (blk_below BK204.out hb)
                have n11_ := Aside0.mk (below_step HB.out hb)
                clear HO_169000 HO_173000 HO_182000 HO195 BK153 BK154 BK168 BK172 BK181 BK204 HB
                have HO_169000 := n0_; have HO_173000 := n1_; have HO_182000 := n2_; have HO195 := n3_; have HO202 := n4_; have BK153 := n5_; have BK154 := n6_; have BK168 := n7_; have BK172 := n8_; have BK181 := n9_; have BK204 := n10_; have HB := n11_
                clear n0_ n1_ n2_ n3_ n4_ n5_ n6_ n7_ n8_ n9_ n10_ n11_
                (try clear hb); (try clear hb2); (try clear hk); (try clear hi); (try clear ho0)
                refine hK.out _ _ ⟨(blk_cell BK153.out 0).trans rfl, (blk_cell BK154.out 0).trans rfl, (blk_cell BK154.out 1).trans rfl, (blk_cell BK154.out 2).trans rfl, (blk_cell BK154.out 3).trans rfl⟩ (fun hHeld => ?_)
                clear hK K
                refine norm_ (a' := ?_) ?_ ?_
                rotate_left
                ·show Act.put _ (some 89) _ = _
                 simp only [Act.put, List.setIfInBounds_toArray, List.set_cons_zero, List.set_cons_succ, i64_w, i32_w]
                 rfl
                refine pure_ (i := 5) (N := some 84) (v := ?_) (a' := ?_) #[true, true, true, true, true, true, false, false, true, false, false] rfl rfl (any_of HT_.out (by kernel_rfl)) (fun _ _ _ h => h) (Or.inl ⟨by rfl, ?_⟩) ?_ ?_
                rotate_left
                ·intro w'
                 go_simp
                 with_reducible rfl
                rotate_left
                ·simp only [Act.put, List.setIfInBounds_toArray, List.set_cons_zero, List.set_cons_succ, i64_w, i32_w]
                 rfl
                refine pure_ (i := 6) (N := some 90) (v := ?_) (a' := ?_) #[true, true, true, true, true, true, true, false, true, false, false] rfl rfl (any_of HT_.out (by kernel_rfl)) (fun _ _ _ h => h) (Or.inl ⟨by rfl, ?_⟩) ?_ ?_
                rotate_left
                ·intro w'
                 go_simp
                 with_reducible rfl
                rotate_left
                ·simp only [Act.put, List.setIfInBounds_toArray, List.set_cons_zero, List.set_cons_succ, i64_w, i32_w]
                 rfl
                refine pure_ (i := 7) (N := some 91) (v := ?_) (a' := ?_) #[true, true, true, true, true, true, true, true, true, false, false] rfl rfl (any_of HT_.out (by kernel_rfl)) (fun _ _ _ h => h) (Or.inl ⟨by rfl, ?_⟩) ?_ ?_
                rotate_left
                ·intro w'
                 go_simp
                 with_reducible rfl
                rotate_left
                ·simp only [Act.put, List.setIfInBounds_toArray, List.set_cons_zero, List.set_cons_succ, i64_w, i32_w]
                 rfl
                exact norm_ (by simp only [putAll, Act.put, List.setIfInBounds_toArray, List.set_cons_zero, List.set_cons_succ]) (hCont (.slice Ao149 t193.length co149, v201, gb204) _ ⟨hHeld, (Kd.R_mono HO195.out (fun _ hk => ⟨hk.2, ⟨hk.1.1.1.2, ⟨hk.1.1.2, hk.1.2⟩⟩⟩)), (Kd.R_mono HO202.out (fun _ hk => ⟨hk.2, ⟨hk.1.1.1.2, ⟨hk.1.1.2, hk.1.2⟩⟩⟩)), (Kd.R_mono HO_169000.out (fun _ hk => ⟨hk.1.2, ⟨hk.2, ⟨hk.1.1.1, hk.1.1.2⟩⟩⟩)), (Kd.R_mono HO_173000.out (fun _ hk => ⟨hk.1.2, ⟨hk.2, ⟨hk.1.1.1, hk.1.1.2⟩⟩⟩)), (Kd.R_mono HO_182000.out (fun _ hk => ⟨hk.1.2, ⟨hk.2, ⟨hk.1.1.1, hk.1.1.2⟩⟩⟩)), BK153.out, BK154.out, BK168.out, BK172.out, BK181.out, BK204.out, GW204.out, GE204.out, NB153_204.out, NB204_153.out, NB154_204.out, NB204_154.out, NB168_204.out, NB204_168.out, NB172_204.out, NB204_172.out, NB181_204.out, NB204_181.out, HB.out⟩)
              ·skip
               refine box_step ?hg (N := 14) ?hd (cs := #[.slice none 0 0]) (t := 29) ?hr ?_; (case hd => rfl); (case hg => rfl); (case hr => first | (go_simp; done) | (go_simp; rfl))
               intro gb204 hg w147 hbox hb
               have n0_ := Aside0.mk (Kd.R_below HO_169000.out hb)
               have n1_ := Aside0.mk (Kd.R_below HO_173000.out hb)
               have n2_ := Aside0.mk (Kd.R_below HO_182000.out hb)
               have n3_ := Aside0.mk (Kd.R_below HO195.out hb)
               have n4_ := Aside0.mk (blk_below BK153.out hb)
               have n5_ := Aside0.mk (blk_below BK154.out hb)
               have n6_ := Aside0.mk (blk_below BK168.out hb)
               have n7_ := Aside0.mk (blk_below BK172.out hb)
               have n8_ := Aside0.mk (blk_below BK181.out hb)
               have n9_ := Aside0.mk (below_step HB.out hb)
               have n10_ := Aside0.mk (hbox)
               have n11_ := Aside0.mk ((by rw [hg]; exact (below_size HB.out) : w.heap.size ≤ gb204))
               have n12_ := Aside0.mk ((by rw [hg]; exact (below_size HB.out) : w.heap.size ≤ gb204))
               have n13_ := Aside0.mk ((by rw [hg]; exact Nat.ne_of_lt (blk_lt BK153.out) : gb153 ≠ gb204))
               have n14_ := Aside0.mk ((by rw [hg]; exact Nat.ne_of_gt (blk_lt BK153.out) : gb204 ≠ gb153))
               have n15_ := Aside0.mk ((by rw [hg]; exact Nat.ne_of_lt (blk_lt BK154.out) : gb154 ≠ gb204))
               have n16_ := Aside0.mk ((by rw [hg]; exact Nat.ne_of_gt (blk_lt BK154.out) : gb204 ≠ gb154))
               have n17_ := Aside0.mk ((by rw [hg]; exact Nat.ne_of_lt (blk_lt BK168.out) : gb168 ≠ gb204))
               have n18_ := Aside0.mk ((by rw [hg]; exact Nat.ne_of_gt (blk_lt BK168.out) : gb204 ≠ gb168))
               have n19_ := Aside0.mk ((by rw [hg]; exact Nat.ne_of_lt (blk_lt BK172.out) : gb172 ≠ gb204))
               have n20_ := Aside0.mk ((by rw [hg]; exact Nat.ne_of_gt (blk_lt BK172.out) : gb204 ≠ gb172))
               have n21_ := Aside0.mk ((by rw [hg]; exact Nat.ne_of_lt (blk_lt BK181.out) : gb181 ≠ gb204))
               have n22_ := Aside0.mk ((by rw [hg]; exact Nat.ne_of_gt (blk_lt BK181.out) : gb204 ≠ gb181))
               clear HO_169000 HO_173000 HO_182000 HO195 BK153 BK154 BK168 BK172 BK181 HB
               have HO_169000 := n0_; have HO_173000 := n1_; have HO_182000 := n2_; have HO195 := n3_; have BK153 := n4_; have BK154 := n5_; have BK168 := n6_; have BK172 := n7_; have BK181 := n8_; have HB := n9_; have BK204 := n10_; have GW204 := n11_; have GE204 := n12_; have NB153_204 := n13_; have NB204_153 := n14_; have NB154_204 := n15_; have NB204_154 := n16_; have NB168_204 := n17_; have NB204_168 := n18_; have NB172_204 := n19_; have NB204_172 := n20_; have NB181_204 := n21_; have NB204_181 := n22_
               clear n0_ n1_ n2_ n3_ n4_ n5_ n6_ n7_ n8_ n9_ n10_ n11_ n12_ n13_ n14_ n15_ n16_ n17_ n18_ n19_ n20_ n21_ n22_ hb hbox hg
               refine hK.out _ _ ⟨(blk_cell BK153.out 0).trans rfl, (blk_cell BK154.out 0).trans rfl, (blk_cell BK154.out 1).trans rfl, (blk_cell BK154.out 2).trans rfl, (blk_cell BK154.out 3).trans rfl⟩ (fun hHeld => ?_)
               clear hK K
               refine norm_ (a' := ?_) ?_ ?_
               rotate_left
               ·show Act.put _ (some 14) _ = _
                simp only [Act.put, List.setIfInBounds_toArray, List.set_cons_zero, List.set_cons_succ, i64_w, i32_w]
                rfl
               refine one_ (i := 3) (N := some 88) #[true, true, true, true, false, false, false, false, true, false, false] rfl rfl (one_of HT_.out (by kernel_rfl)) (by decide) (fun K hK => ?_)
               refine goes_ Try.func23 (by kernel_rfl) rfl #[.agg #[.int .i64 a1_0, .string a1_1, .string a1_2, .string a1_3]] (by rfl) rfl rfl (by (try simp only [List.map_toArray, List.map_cons, List.map_nil]); first | done | rfl | (simp only [List.length_drop, List.length_take]; rfl)) ?_
               with_reducible refine (laws_toAct.calls a1_0 a1_1 a1_2 a1_3 t196 t197 t198 t199 _ A134.out).mono ?_
               rintro e w148 ⟨rfl, hb⟩
               refine ⟨_, rfl, ?_⟩
               have n0_ := Aside0.mk (Kd.R_below HO_169000.out hb)
               have n1_ := Aside0.mk (Kd.R_below HO_173000.out hb)
               have n2_ := Aside0.mk (Kd.R_below HO_182000.out hb)
               have n3_ := Aside0.mk (Kd.R_below HO195.out hb)
               have n4_ := Aside0.mk (blk_below BK153.out hb)
               have n5_ := Aside0.mk (blk_below BK154.out hb)
               have n6_ := Aside0.mk (blk_below BK168.out hb)
               have n7_ := Aside0.mk (blk_below BK172.out hb)
               have n8_ := Aside0.mk (blk_below BK181.out hb)
               have n9_ := Aside0.mk (blk_below BK204.out hb)
               have n10_ := Aside0.mk (below_step HB.out hb)
               clear HO_169000 HO_173000 HO_182000 HO195 BK153 BK154 BK168 BK172 BK181 BK204 HB
               have HO_169000 := n0_; have HO_173000 := n1_; have HO_182000 := n2_; have HO195 := n3_; have BK153 := n4_; have BK154 := n5_; have BK168 := n6_; have BK172 := n7_; have BK181 := n8_; have BK204 := n9_; have HB := n10_
               clear n0_ n1_ n2_ n3_ n4_ n5_ n6_ n7_ n8_ n9_ n10_
               (try clear hb); (try clear hb2); (try clear hk); (try clear hi)
               obtain ⟨Ao149, co149, eo149⟩ := Kd.R_slice HO195.out
               (first | subst eo149 | (injection eo149 with f1_ f2_ f3_; have f4_ := f1_.symm; have f5_ := f3_.symm; clear f1_ f2_ f3_; subst f4_; subst f5_))
               refine hK.out _ _ ⟨(blk_cell BK153.out 0).trans rfl, (blk_cell BK154.out 0).trans rfl, (blk_cell BK154.out 1).trans rfl, (blk_cell BK154.out 2).trans rfl, (blk_cell BK154.out 3).trans rfl⟩ (fun hHeld => ?_)
               clear hK K
               refine norm_ (a' := ?_) ?_ ?_
               rotate_left
               ·show Act.put _ (some 88) _ = _
                simp only [Act.put, List.setIfInBounds_toArray, List.set_cons_zero, List.set_cons_succ, i64_w, i32_w]
                rfl
               refine one_ (i := 4) (N := some 89) #[true, true, true, true, true, false, false, false, true, false, false] rfl rfl (one_of HT_.out (by kernel_rfl)) (by decide) (fun K hK => ?_)
               refine goes_ Try.func24 (by kernel_rfl) rfl #[.agg #[.slice Ao149 t193.length co149], .agg #[.int .i64 t196, .string t197, .string t198, .string t199]] (by rfl) rfl rfl (by (try simp only [List.map_toArray, List.map_cons, List.map_nil]); first | done | rfl | (simp only [List.length_drop, List.length_take]; rfl)) ?_
               with_reducible refine (impl_DoAct.calls _ _ t193 t196 t197 t198 t199 t200 t203 _ ?side1 ?side2 A135.out).mono ?_
               (case side1 => repeat (first | exact (Kd.R_reads' HO195.out).2.2 | (with_reducible refine Kd.C_alloc ?_ _) | (with_reducible refine Kd.C_drewN ?_ _) | (with_reducible refine Kd.C_drew ?_)))
               (case side2 => exact (Kd.R_reads' HO195.out).2.1)
               rintro e w150 ⟨v201, rfl, ho0, hb⟩
               refine ⟨_, rfl, ?_⟩
               have n0_ := Aside0.mk (Kd.R_elder' HO_169000.out (Kd.R_base ho0) hb)
               have n1_ := Aside0.mk (Kd.R_elder' HO_173000.out (Kd.R_base ho0) hb)
               have n2_ := Aside0.mk (Kd.R_elder' HO_182000.out (Kd.R_base ho0) hb)
               have n3_ := Aside0.mk (Kd.R_elder' HO195.out (Kd.R_base ho0) hb)
               have n4_ := Aside0.mk (Kd.R_lower (Kd.R_new' (Kd.R_new' (Kd.R_new' (Kd.R_new' ho0 (Kd.R_lt HO_169000.out)) (Kd.R_lt HO_173000.out)) (Kd.R_lt HO_182000.out)) (Kd.R_lt HO195.out)) (below_size HB.out))
               have n5_ := Aside0.mk (blk_below BK153.out hb)
               have n6_ := Aside0.mk (blk_below BK154.out hb)
               have n7_ := Aside0.mk (blk_below BK168.out hb)
               have n8_ := Aside0.mk (blk_below BK172.out hb)
               have n9_ := Aside0.mk (blk_below BK181.out hb)
               have n10_ := Aside0.mk (blk_below BK204.out hb)
               have n11_ := Aside0.mk (below_step HB.out hb)
               clear HO_169000 HO_173000 HO_182000 HO195 BK153 BK154 BK168 BK172 BK181 BK204 HB
               have HO_169000 := n0_; have HO_173000 := n1_; have HO_182000 := n2_; have HO195 := n3_; have HO202 := n4_; have BK153 := n5_; have BK154 := n6_; have BK168 := n7_; have BK172 := n8_; have BK181 := n9_; have BK204 := n10_; have HB := n11_
               clear n0_ n1_ n2_ n3_ n4_ n5_ n6_ n7_ n8_ n9_ n10_ n11_
               (try clear hb); (try clear hb2); (try clear hk); (try clear hi); (try clear ho0)
               refine hK.out _ _ ⟨(blk_cell BK153.out 0).trans rfl, (blk_cell BK154.out 0).trans rfl, (blk_cell BK154.out 1).trans rfl, (blk_cell BK154.out 2).trans rfl, (blk_cell BK154.out 3).trans rfl⟩ (fun hHeld => ?_)
               clear hK K
               refine norm_ (a' := ?_) ?_ ?_
               rotate_left
               ·show Act.put _ (some 89) _ = _
                simp only [Act.put, List.setIfInBounds_toArray, List.set_cons_zero, List.set_cons_succ, i64_w, i32_w]
                rfl
               refine pure_ (i := 5) (N := some 84) (v := ?_) (a' := ?_) #[true, true, true, true, true, true, false, false, true, false, false] rfl rfl (any_of HT_.out (by kernel_rfl)) (fun _ _ _ h => h) (Or.inl ⟨by rfl, ?_⟩) ?_ ?_
               rotate_left
               ·intro w'
                go_simp
                with_reducible rfl
               rotate_left
               ·simp only [Act.put, List.setIfInBounds_toArray, List.set_cons_zero, List.set_cons_succ, i64_w, i32_w]
                rfl
               refine pure_ (i := 6) (N := some 90) (v := ?_) (a' := ?_) #[true, true, true, true, true, true, true, false, true, false, false] rfl rfl (any_of HT_.out (by kernel_rfl)) (fun _ _ _ h => h) (Or.inl ⟨by rfl, ?_⟩) ?_ ?_
               rotate_left
               ·intro w'
                go_simp
                with_reducible rfl
               rotate_left
               ·simp only [Act.put, List.setIfInBounds_toArray, List.set_cons_zero, List.set_cons_succ, i64_w, i32_w]
                rfl
               refine pure_ (i := 7) (N := some 91) (v := ?_) (a' := ?_) #[true, true, true, true, true, true, true, true, true, false, false] rfl rfl (any_of HT_.out (by kernel_rfl)) (fun _ _ _ h => h) (Or.inl ⟨by rfl, ?_⟩) ?_ ?_
               rotate_left
               ·intro w'
                go_simp
                with_reducible rfl
               rotate_left
               ·simp only [Act.put, List.setIfInBounds_toArray, List.set_cons_zero, List.set_cons_succ, i64_w, i32_w]
                rfl
               exact norm_ (by simp only [putAll, Act.put, List.setIfInBounds_toArray, List.set_cons_zero, List.set_cons_succ]) (hCont (.slice Ao149 t193.length co149, v201, gb204) _ ⟨hHeld, (Kd.R_mono HO195.out (fun _ hk => ⟨hk.2, ⟨hk.1.1.1.2, ⟨hk.1.1.2, hk.1.2⟩⟩⟩)), (Kd.R_mono HO202.out (fun _ hk => ⟨hk.2, ⟨hk.1.1.1.2, ⟨hk.1.1.2, hk.1.2⟩⟩⟩)), (Kd.R_mono HO_169000.out (fun _ hk => ⟨hk.1.2, ⟨hk.2, ⟨hk.1.1.1, hk.1.1.2⟩⟩⟩)), (Kd.R_mono HO_173000.out (fun _ hk => ⟨hk.1.2, ⟨hk.2, ⟨hk.1.1.1, hk.1.1.2⟩⟩⟩)), (Kd.R_mono HO_182000.out (fun _ hk => ⟨hk.1.2, ⟨hk.2, ⟨hk.1.1.1, hk.1.1.2⟩⟩⟩)), BK153.out, BK154.out, BK168.out, BK172.out, BK181.out, BK204.out, GW204.out, GE204.out, NB153_204.out, NB204_153.out, NB154_204.out, NB204_154.out, NB168_204.out, NB204_168.out, NB172_204.out, NB204_172.out, NB181_204.out, NB204_181.out, HB.out⟩)
             ·skip
              refine box_step ?hg (N := 14) ?hd (cs := #[.slice none 0 0]) (t := 29) ?hr ?_; (case hd => rfl); (case hg => rfl); (case hr => first | (go_simp; done) | (go_simp; rfl))
              intro gb204 hg w146 hbox hb
              have n0_ := Aside0.mk (Kd.R_below HO_169000.out hb)
              have n1_ := Aside0.mk (Kd.R_below HO_173000.out hb)
              have n2_ := Aside0.mk (Kd.R_below HO_182000.out hb)
              have n3_ := Aside0.mk (blk_below BK153.out hb)
              have n4_ := Aside0.mk (blk_below BK154.out hb)
              have n5_ := Aside0.mk (blk_below BK168.out hb)
              have n6_ := Aside0.mk (blk_below BK172.out hb)
              have n7_ := Aside0.mk (blk_below BK181.out hb)
              have n8_ := Aside0.mk (below_step HB.out hb)
              have n9_ := Aside0.mk (hbox)
              have n10_ := Aside0.mk ((by rw [hg]; exact (below_size HB.out) : w.heap.size ≤ gb204))
              have n11_ := Aside0.mk ((by rw [hg]; exact (below_size HB.out) : w.heap.size ≤ gb204))
              have n12_ := Aside0.mk ((by rw [hg]; exact Nat.ne_of_lt (blk_lt BK153.out) : gb153 ≠ gb204))
              have n13_ := Aside0.mk ((by rw [hg]; exact Nat.ne_of_gt (blk_lt BK153.out) : gb204 ≠ gb153))
              have n14_ := Aside0.mk ((by rw [hg]; exact Nat.ne_of_lt (blk_lt BK154.out) : gb154 ≠ gb204))
              have n15_ := Aside0.mk ((by rw [hg]; exact Nat.ne_of_gt (blk_lt BK154.out) : gb204 ≠ gb154))
              have n16_ := Aside0.mk ((by rw [hg]; exact Nat.ne_of_lt (blk_lt BK168.out) : gb168 ≠ gb204))
              have n17_ := Aside0.mk ((by rw [hg]; exact Nat.ne_of_gt (blk_lt BK168.out) : gb204 ≠ gb168))
              have n18_ := Aside0.mk ((by rw [hg]; exact Nat.ne_of_lt (blk_lt BK172.out) : gb172 ≠ gb204))
              have n19_ := Aside0.mk ((by rw [hg]; exact Nat.ne_of_gt (blk_lt BK172.out) : gb204 ≠ gb172))
              have n20_ := Aside0.mk ((by rw [hg]; exact Nat.ne_of_lt (blk_lt BK181.out) : gb181 ≠ gb204))
              have n21_ := Aside0.mk ((by rw [hg]; exact Nat.ne_of_gt (blk_lt BK181.out) : gb204 ≠ gb181))
              clear HO_169000 HO_173000 HO_182000 BK153 BK154 BK168 BK172 BK181 HB
              have HO_169000 := n0_; have HO_173000 := n1_; have HO_182000 := n2_; have BK153 := n3_; have BK154 := n4_; have BK168 := n5_; have BK172 := n6_; have BK181 := n7_; have HB := n8_; have BK204 := n9_; have GW204 := n10_; have GE204 := n11_; have NB153_204 := n12_; have NB204_153 := n13_; have NB154_204 := n14_; have NB204_154 := n15_; have NB168_204 := n16_; have NB204_168 := n17_; have NB172_204 := n18_; have NB204_172 := n19_; have NB181_204 := n20_; have NB204_181 := n21_
              clear n0_ n1_ n2_ n3_ n4_ n5_ n6_ n7_ n8_ n9_ n10_ n11_ n12_ n13_ n14_ n15_ n16_ n17_ n18_ n19_ n20_ n21_ hb hbox hg
              refine hK.out _ _ ⟨(blk_cell BK153.out 0).trans rfl, (blk_cell BK154.out 0).trans rfl, (blk_cell BK154.out 1).trans rfl, (blk_cell BK154.out 2).trans rfl, (blk_cell BK154.out 3).trans rfl⟩ (fun hHeld => ?_)
              clear hK K
              refine norm_ (a' := ?_) ?_ ?_
              rotate_left
              ·show Act.put _ (some 14) _ = _
               simp only [Act.put, List.setIfInBounds_toArray, List.set_cons_zero, List.set_cons_succ, i64_w, i32_w]
               rfl
              refine one_ (i := 1) (N := some 86) #[true, true, true, false, false, false, false, false, true, false, false] rfl rfl (one_of HT_.out (by kernel_rfl)) (by decide) (fun K hK => ?_)
              refine goes_ Try.func14 (by kernel_rfl) rfl #[.agg #[.slice A0_0 l0_0.length c0_0]] (by rfl) rfl rfl (by (try simp only [List.map_toArray, List.map_cons, List.map_nil]); first | done | rfl | (simp only [List.length_drop, List.length_take]; rfl)) ?_
              with_reducible refine (laws_toDisk.calls kj85 _ _ l0_0 t193 _ ?side1 ?side2 A133.out).mono ?_
              (case side1 => repeat (first | exact (Kd.C_below HR0_0.out HB.out) | (with_reducible refine Kd.C_alloc ?_ _) | (with_reducible refine Kd.C_drewN ?_ _) | (with_reducible refine Kd.C_drew ?_)))
              (case side2 => exact HC0_0.out)
              rintro e w147 ⟨v194, rfl, ho0, hb⟩
              refine ⟨_, rfl, ?_⟩
              have n0_ := Aside0.mk (Kd.R_elder' HO_169000.out (Kd.R_base ho0) hb)
              have n1_ := Aside0.mk (Kd.R_elder' HO_173000.out (Kd.R_base ho0) hb)
              have n2_ := Aside0.mk (Kd.R_elder' HO_182000.out (Kd.R_base ho0) hb)
              have n3_ := Aside0.mk (Kd.R_lower (Kd.R_new' (Kd.R_new' (Kd.R_new' ho0 (Kd.R_lt HO_169000.out)) (Kd.R_lt HO_173000.out)) (Kd.R_lt HO_182000.out)) (below_size HB.out))
              have n4_ := Aside0.mk (blk_below BK153.out hb)
              have n5_ := Aside0.mk (blk_below BK154.out hb)
              have n6_ := Aside0.mk (blk_below BK168.out hb)
              have n7_ := Aside0.mk (blk_below BK172.out hb)
              have n8_ := Aside0.mk (blk_below BK181.out hb)
              have n9_ := Aside0.mk (blk_below BK204.out hb)
              have n10_ := Aside0.mk (below_step HB.out hb)
              clear HO_169000 HO_173000 HO_182000 BK153 BK154 BK168 BK172 BK181 BK204 HB
              have HO_169000 := n0_; have HO_173000 := n1_; have HO_182000 := n2_; have HO195 := n3_; have BK153 := n4_; have BK154 := n5_; have BK168 := n6_; have BK172 := n7_; have BK181 := n8_; have BK204 := n9_; have HB := n10_
              clear n0_ n1_ n2_ n3_ n4_ n5_ n6_ n7_ n8_ n9_ n10_
              (try clear hb); (try clear hb2); (try clear hk); (try clear hi); (try clear ho0)
              refine hK.out _ _ ⟨(blk_cell BK153.out 0).trans rfl, (blk_cell BK154.out 0).trans rfl, (blk_cell BK154.out 1).trans rfl, (blk_cell BK154.out 2).trans rfl, (blk_cell BK154.out 3).trans rfl⟩ (fun hHeld => ?_)
              clear hK K
              refine norm_ (a' := ?_) ?_ ?_
              rotate_left
              ·show Act.put _ (some 86) _ = _
               simp only [Act.put, List.setIfInBounds_toArray, List.set_cons_zero, List.set_cons_succ, i64_w, i32_w]
               rfl
              refine one_ (i := 3) (N := some 88) #[true, true, true, true, false, false, false, false, true, false, false] rfl rfl (one_of HT_.out (by kernel_rfl)) (by decide) (fun K hK => ?_)
              refine goes_ Try.func23 (by kernel_rfl) rfl #[.agg #[.int .i64 a1_0, .string a1_1, .string a1_2, .string a1_3]] (by rfl) rfl rfl (by (try simp only [List.map_toArray, List.map_cons, List.map_nil]); first | done | rfl | (simp only [List.length_drop, List.length_take]; rfl)) ?_
              with_reducible refine (laws_toAct.calls a1_0 a1_1 a1_2 a1_3 t196 t197 t198 t199 _ A134.out).mono ?_
              rintro e w148 ⟨rfl, hb⟩
              refine ⟨_, rfl, ?_⟩
              have n0_ := Aside0.mk (Kd.R_below HO_169000.out hb)
              have n1_ := Aside0.mk (Kd.R_below HO_173000.out hb)
              have n2_ := Aside0.mk (Kd.R_below HO_182000.out hb)
              have n3_ := Aside0.mk (Kd.R_below HO195.out hb)
              have n4_ := Aside0.mk (blk_below BK153.out hb)
              have n5_ := Aside0.mk (blk_below BK154.out hb)
              have n6_ := Aside0.mk (blk_below BK168.out hb)
              have n7_ := Aside0.mk (blk_below BK172.out hb)
              have n8_ := Aside0.mk (blk_below BK181.out hb)
              have n9_ := Aside0.mk (blk_below BK204.out hb)
              have n10_ := Aside0.mk (below_step HB.out hb)
              clear HO_169000 HO_173000 HO_182000 HO195 BK153 BK154 BK168 BK172 BK181 BK204 HB
              have HO_169000 := n0_; have HO_173000 := n1_; have HO_182000 := n2_; have HO195 := n3_; have BK153 := n4_; have BK154 := n5_; have BK168 := n6_; have BK172 := n7_; have BK181 := n8_; have BK204 := n9_; have HB := n10_
              clear n0_ n1_ n2_ n3_ n4_ n5_ n6_ n7_ n8_ n9_ n10_
              (try clear hb); (try clear hb2); (try clear hk); (try clear hi)
              obtain ⟨Ao149, co149, eo149⟩ := Kd.R_slice HO195.out
              (first | subst eo149 | (injection eo149 with f1_ f2_ f3_; have f4_ := f1_.symm; have f5_ := f3_.symm; clear f1_ f2_ f3_; subst f4_; subst f5_))
              refine hK.out _ _ ⟨(blk_cell BK153.out 0).trans rfl, (blk_cell BK154.out 0).trans rfl, (blk_cell BK154.out 1).trans rfl, (blk_cell BK154.out 2).trans rfl, (blk_cell BK154.out 3).trans rfl⟩ (fun hHeld => ?_)
              clear hK K
              refine norm_ (a' := ?_) ?_ ?_
              rotate_left
              ·show Act.put _ (some 88) _ = _
               simp only [Act.put, List.setIfInBounds_toArray, List.set_cons_zero, List.set_cons_succ, i64_w, i32_w]
               rfl
              refine one_ (i := 4) (N := some 89) #[true, true, true, true, true, false, false, false, true, false, false] rfl rfl (one_of HT_.out (by kernel_rfl)) (by decide) (fun K hK => ?_)
              refine goes_ Try.func24 (by kernel_rfl) rfl #[.agg #[.slice Ao149 t193.length co149], .agg #[.int .i64 t196, .string t197, .string t198, .string t199]] (by rfl) rfl rfl (by (try simp only [List.map_toArray, List.map_cons, List.map_nil]); first | done | rfl | (simp only [List.length_drop, List.length_take]; rfl)) ?_
              with_reducible refine (impl_DoAct.calls _ _ t193 t196 t197 t198 t199 t200 t203 _ ?side1 ?side2 A135.out).mono ?_
              (case side1 => repeat (first | exact (Kd.R_reads' HO195.out).2.2 | (with_reducible refine Kd.C_alloc ?_ _) | (with_reducible refine Kd.C_drewN ?_ _) | (with_reducible refine Kd.C_drew ?_)))
              (case side2 => exact (Kd.R_reads' HO195.out).2.1)
              rintro e w150 ⟨v201, rfl, ho0, hb⟩
              refine ⟨_, rfl, ?_⟩
              have n0_ := Aside0.mk (Kd.R_elder' HO_169000.out (Kd.R_base ho0) hb)
              have n1_ := Aside0.mk (Kd.R_elder' HO_173000.out (Kd.R_base ho0) hb)
              have n2_ := Aside0.mk (Kd.R_elder' HO_182000.out (Kd.R_base ho0) hb)
              have n3_ := Aside0.mk (Kd.R_elder' HO195.out (Kd.R_base ho0) hb)
              have n4_ := Aside0.mk (Kd.R_lower (Kd.R_new' (Kd.R_new' (Kd.R_new' (Kd.R_new' ho0 (Kd.R_lt HO_169000.out)) (Kd.R_lt HO_173000.out)) (Kd.R_lt HO_182000.out)) (Kd.R_lt HO195.out)) (below_size HB.out))
              have n5_ := Aside0.mk (blk_below BK153.out hb)
              have n6_ := Aside0.mk (blk_below BK154.out hb)
              have n7_ := Aside0.mk (blk_below BK168.out hb)
              have n8_ := Aside0.mk (blk_below BK172.out hb)
              have n9_ := Aside0.mk (blk_below BK181.out hb)
              have n10_ := Aside0.mk (blk_below BK204.out hb)
              have n11_ := Aside0.mk (below_step HB.out hb)
              clear HO_169000 HO_173000 HO_182000 HO195 BK153 BK154 BK168 BK172 BK181 BK204 HB
              have HO_169000 := n0_; have HO_173000 := n1_; have HO_182000 := n2_; have HO195 := n3_; have HO202 := n4_; have BK153 := n5_; have BK154 := n6_; have BK168 := n7_; have BK172 := n8_; have BK181 := n9_; have BK204 := n10_; have HB := n11_
              clear n0_ n1_ n2_ n3_ n4_ n5_ n6_ n7_ n8_ n9_ n10_ n11_
              (try clear hb); (try clear hb2); (try clear hk); (try clear hi); (try clear ho0)
              refine hK.out _ _ ⟨(blk_cell BK153.out 0).trans rfl, (blk_cell BK154.out 0).trans rfl, (blk_cell BK154.out 1).trans rfl, (blk_cell BK154.out 2).trans rfl, (blk_cell BK154.out 3).trans rfl⟩ (fun hHeld => ?_)
              clear hK K
              refine norm_ (a' := ?_) ?_ ?_
              rotate_left
              ·show Act.put _ (some 89) _ = _
               simp only [Act.put, List.setIfInBounds_toArray, List.set_cons_zero, List.set_cons_succ, i64_w, i32_w]
               rfl
              refine pure_ (i := 5) (N := some 84) (v := ?_) (a' := ?_) #[true, true, true, true, true, true, false, false, true, false, false] rfl rfl (any_of HT_.out (by kernel_rfl)) (fun _ _ _ h => h) (Or.inl ⟨by rfl, ?_⟩) ?_ ?_
              rotate_left
              ·intro w'
               go_simp
               with_reducible rfl
              rotate_left
              ·simp only [Act.put, List.setIfInBounds_toArray, List.set_cons_zero, List.set_cons_succ, i64_w, i32_w]
               rfl
              refine pure_ (i := 6) (N := some 90) (v := ?_) (a' := ?_) #[true, true, true, true, true, true, true, false, true, false, false] rfl rfl (any_of HT_.out (by kernel_rfl)) (fun _ _ _ h => h) (Or.inl ⟨by rfl, ?_⟩) ?_ ?_
              rotate_left
              ·intro w'
               go_simp
               with_reducible rfl
              rotate_left
              ·simp only [Act.put, List.setIfInBounds_toArray, List.set_cons_zero, List.set_cons_succ, i64_w, i32_w]
               rfl
              refine pure_ (i := 7) (N := some 91) (v := ?_) (a' := ?_) #[true, true, true, true, true, true, true, true, true, false, false] rfl rfl (any_of HT_.out (by kernel_rfl)) (fun _ _ _ h => h) (Or.inl ⟨by rfl, ?_⟩) ?_ ?_
              rotate_left
              ·intro w'
               go_simp
               with_reducible rfl
              rotate_left
              ·simp only [Act.put, List.setIfInBounds_toArray, List.set_cons_zero, List.set_cons_succ, i64_w, i32_w]
               rfl
              exact norm_ (by simp only [putAll, Act.put, List.setIfInBounds_toArray, List.set_cons_zero, List.set_cons_succ]) (hCont (.slice Ao149 t193.length co149, v201, gb204) _ ⟨hHeld, (Kd.R_mono HO195.out (fun _ hk => ⟨hk.2, ⟨hk.1.1.1.2, ⟨hk.1.1.2, hk.1.2⟩⟩⟩)), (Kd.R_mono HO202.out (fun _ hk => ⟨hk.2, ⟨hk.1.1.1.2, ⟨hk.1.1.2, hk.1.2⟩⟩⟩)), (Kd.R_mono HO_169000.out (fun _ hk => ⟨hk.1.2, ⟨hk.2, ⟨hk.1.1.1, hk.1.1.2⟩⟩⟩)), (Kd.R_mono HO_173000.out (fun _ hk => ⟨hk.1.2, ⟨hk.2, ⟨hk.1.1.1, hk.1.1.2⟩⟩⟩)), (Kd.R_mono HO_182000.out (fun _ hk => ⟨hk.1.2, ⟨hk.2, ⟨hk.1.1.1, hk.1.1.2⟩⟩⟩)), BK153.out, BK154.out, BK168.out, BK172.out, BK181.out, BK204.out, GW204.out, GE204.out, NB153_204.out, NB204_153.out, NB154_204.out, NB204_154.out, NB168_204.out, NB204_168.out, NB172_204.out, NB204_172.out, NB181_204.out, NB204_181.out, HB.out⟩)
            rintro ⟨v194, v201, gb204⟩ w151 ⟨hS_, h0_, h1_, h2_, h3_, h4_, h5_, h6_, h7_, h8_, h9_, h10_, h11_, h12_, h13_, h14_, h15_, h16_, h17_, h18_, h19_, h20_, h21_, h22_, h23_⟩
            have n0_ : Aside0 (Kd.R k67 67 w151 w.heap.size (fun k_ => some k_ ≠ (v201 : Value).ownBlock ∧ some k_ ≠ (.slice Ao40 t164.length co40 : Value).ownBlock ∧ some k_ ≠ (.slice Ao46 t188.length co46 : Value).ownBlock ∧ some k_ ≠ (.slice Ao57 t177.length co57 : Value).ownBlock) v194 t193) := ⟨h0_⟩
            have n1_ : Aside0 (Kd.R k67 67 w151 w.heap.size (fun k_ => some k_ ≠ (v194 : Value).ownBlock ∧ some k_ ≠ (.slice Ao40 t164.length co40 : Value).ownBlock ∧ some k_ ≠ (.slice Ao46 t188.length co46 : Value).ownBlock ∧ some k_ ≠ (.slice Ao57 t177.length co57 : Value).ownBlock) v201 t200) := ⟨h1_⟩
            have n2_ : Aside0 (Kd.R k67 67 w151 w.heap.size (fun k_ => some k_ ≠ (v194 : Value).ownBlock ∧ some k_ ≠ (v201 : Value).ownBlock ∧ some k_ ≠ (.slice Ao46 t188.length co46 : Value).ownBlock ∧ some k_ ≠ (.slice Ao57 t177.length co57 : Value).ownBlock) (.slice Ao40 t164.length co40) t164) := ⟨h2_⟩
            have n3_ : Aside0 (Kd.R k67 67 w151 w.heap.size (fun k_ => some k_ ≠ (v194 : Value).ownBlock ∧ some k_ ≠ (v201 : Value).ownBlock ∧ some k_ ≠ (.slice Ao40 t164.length co40 : Value).ownBlock ∧ some k_ ≠ (.slice Ao57 t177.length co57 : Value).ownBlock) (.slice Ao46 t188.length co46) t188) := ⟨h3_⟩
            have n4_ : Aside0 (Kd.R k67 67 w151 w.heap.size (fun k_ => some k_ ≠ (v194 : Value).ownBlock ∧ some k_ ≠ (v201 : Value).ownBlock ∧ some k_ ≠ (.slice Ao40 t164.length co40 : Value).ownBlock ∧ some k_ ≠ (.slice Ao46 t188.length co46 : Value).ownBlock) (.slice Ao57 t177.length co57) t191) := ⟨h4_⟩
            have n5_ : Aside0 (w151.heap[gb153]? = some (.cells #[.slice A0_0 l0_0.length c0_0] 24 (0, 0))) := ⟨h5_⟩
            have n6_ : Aside0 (w151.heap[gb154]? = some (.cells #[.int .i64 a1_0, .string a1_1, .string a1_2, .string a1_3] 37 (0, 0))) := ⟨h6_⟩
            have n7_ : Aside0 (w151.heap[gb168]? = some (.cells #[.slice Ao40 t164.length co40] 29 (0, 0))) := ⟨h7_⟩
            have n8_ : Aside0 (w151.heap[gb172]? = some (.cells #[.slice Ao46 t188.length co46] 29 (0, 0))) := ⟨h8_⟩
            have n9_ : Aside0 (w151.heap[gb181]? = some (.cells #[.slice Ao57 t177.length co57] 29 (0, 0))) := ⟨h9_⟩
            have n10_ : Aside0 (w151.heap[gb204]? = some (.cells #[.slice none 0 0] 29 (0, 0))) := ⟨h10_⟩
            have n11_ : Aside0 (w.heap.size ≤ gb204) := ⟨h11_⟩
            have n12_ : Aside0 (w.heap.size ≤ gb204) := ⟨h12_⟩
            have n13_ : Aside0 (gb153 ≠ gb204) := ⟨h13_⟩
            have n14_ : Aside0 (gb204 ≠ gb153) := ⟨h14_⟩
            have n15_ : Aside0 (gb154 ≠ gb204) := ⟨h15_⟩
            have n16_ : Aside0 (gb204 ≠ gb154) := ⟨h16_⟩
            have n17_ : Aside0 (gb168 ≠ gb204) := ⟨h17_⟩
            have n18_ : Aside0 (gb204 ≠ gb168) := ⟨h18_⟩
            have n19_ : Aside0 (gb172 ≠ gb204) := ⟨h19_⟩
            have n20_ : Aside0 (gb204 ≠ gb172) := ⟨h20_⟩
            have n21_ : Aside0 (gb181 ≠ gb204) := ⟨h21_⟩
            have n22_ : Aside0 (gb204 ≠ gb181) := ⟨h22_⟩
            have n23_ : Aside0 (Below w.heap.size w w151) := ⟨h23_⟩
            clear HO_169000 HO_173000 HO_182000 BK153 BK154 BK168 BK172 BK181 HB h0_ h1_ h2_ h3_ h4_ h5_ h6_ h7_ h8_ h9_ h10_ h11_ h12_ h13_ h14_ h15_ h16_ h17_ h18_ h19_ h20_ h21_ h22_ h23_
            have HO195 := n0_; have HO202 := n1_; have HO_169000 := n2_; have HO_173000 := n3_; have HO_182000 := n4_; have BK153 := n5_; have BK154 := n6_; have BK168 := n7_; have BK172 := n8_; have BK181 := n9_; have BK204 := n10_; have GW204 := n11_; have GE204 := n12_; have NB153_204 := n13_; have NB204_153 := n14_; have NB154_204 := n15_; have NB204_154 := n16_; have NB168_204 := n17_; have NB204_168 := n18_; have NB172_204 := n19_; have NB204_172 := n20_; have NB181_204 := n21_; have NB204_181 := n22_; have HB := n23_
            clear n0_ n1_ n2_ n3_ n4_ n5_ n6_ n7_ n8_ n9_ n10_ n11_ n12_ n13_ n14_ n15_ n16_ n17_ n18_ n19_ n20_ n21_ n22_ n23_
            have hHeld : w151.cell? ⟨gb153, 0, none⟩ = some (.slice A0_0 l0_0.length c0_0) ∧ w151.cell? ⟨gb154, 0, none⟩ = some (.int .i64 a1_0) ∧ w151.cell? ⟨gb154, 1, none⟩ = some (.string a1_1) ∧ w151.cell? ⟨gb154, 2, none⟩ = some (.string a1_2) ∧ w151.cell? ⟨gb154, 3, none⟩ = some (.string a1_3) := hS_
            obtain ⟨Ao152, co152, eo152⟩ := Kd.R_slice HO202.out
            (first | subst eo152 | (injection eo152 with f1_ f2_ f3_; have f4_ := f1_.symm; have f5_ := f3_.symm; clear f1_ f2_ f3_; subst f4_; subst f5_))
            refine norm_ (a' := ?_) ?_ ?_
            rotate_left
            ·simp only [putAll, Act.put, List.setIfInBounds_toArray, List.set_cons_zero, List.set_cons_succ]
             rfl
            refine one_ (i := 9) (N := none) #[true, true, true, true, true, true, true, true, true, true, false] rfl rfl (one_of HT_.out (by kernel_rfl)) (by decide) (fun K hK => ?_)
            have hs153 : w151.cell? ⟨gb204, 0, none⟩ = some (.slice none 0 0) := (blk_cell BK204.out 0).trans rfl
            have hfs153 := blk_frozen BK204.out 0
            have hns153_0 := NB153_204.out; have hns153_1 := NB154_204.out; have hns153_2 := NB168_204.out; have hns153_3 := NB172_204.out; have hns153_4 := NB181_204.out; have hms153_0 := NB204_153.out; have hms153_1 := NB204_154.out; have hms153_2 := NB204_168.out; have hms153_3 := NB204_172.out; have hms153_4 := NB204_181.out
            refine skip_ (w1 := ?_) (by rfl) rfl ?_ ?_
            rotate_left
            ·go_simp
             rfl
            refine hK.out _ _ ⟨((cell_far (p := ⟨gb204, _, none⟩) NB153_204.out _).trans (hHeld.1)), ((cell_far (p := ⟨gb204, _, none⟩) NB154_204.out _).trans (hHeld.2.1)), ((cell_far (p := ⟨gb204, _, none⟩) NB154_204.out _).trans (hHeld.2.2.1)), ((cell_far (p := ⟨gb204, _, none⟩) NB154_204.out _).trans (hHeld.2.2.2.1)), ((cell_far (p := ⟨gb204, _, none⟩) NB154_204.out _).trans (hHeld.2.2.2.2))⟩ (fun hHeld => ?_)
            clear hK K
            refine pure_ (i := 10) (N := some 15) (v := ?_) (a' := ?_) #[true, true, true, true, true, true, true, true, true, true, true] rfl rfl (any_of HT_.out (by kernel_rfl)) (fun _ _ _ h => h) (Or.inl ⟨by rfl, ?_⟩) ?_ ?_
            rotate_left
            ·intro w'
             go_simp
             with_reducible rfl
            rotate_left
            ·simp only [Act.put, List.setIfInBounds_toArray, List.set_cons_zero, List.set_cons_succ, i64_w, i32_w]
             rfl
            refine done_ (done_of HT_.out (by kernel_rfl)) ?_
            go_upto_region 28 with (fail)
            go_cut [100] (fun v100 wc => ∃ (kq : Nat) (x100_135 : Bool), v100 = .bool x100_135 ∧ Aside0 (laws_FnExactDoAct.j2 kq t190 x100_135 t191 = some r) ∧ Aside0 (kq ≤ kj85) ∧ Aside0 (Kd.R k67 67 wc w.heap.size (fun k_ => some k_ ≠ ((.slice Ao46 t188.length co46) : Value).ownBlock ∧ some k_ ≠ ((.slice Ao57 t177.length co57) : Value).ownBlock ∧ some k_ ≠ ((.slice Ao152 t200.length co152) : Value).ownBlock) (.slice Ao40 t164.length co40) t164) ∧ Aside0 (Kd.R k67 67 wc w.heap.size (fun k_ => some k_ ≠ ((.slice Ao40 t164.length co40) : Value).ownBlock ∧ some k_ ≠ ((.slice Ao57 t177.length co57) : Value).ownBlock ∧ some k_ ≠ ((.slice Ao152 t200.length co152) : Value).ownBlock) (.slice Ao46 t188.length co46) t188) ∧ Aside0 (Kd.R k67 67 wc w.heap.size (fun k_ => some k_ ≠ ((.slice Ao40 t164.length co40) : Value).ownBlock ∧ some k_ ≠ ((.slice Ao46 t188.length co46) : Value).ownBlock ∧ some k_ ≠ ((.slice Ao152 t200.length co152) : Value).ownBlock) (.slice Ao57 t177.length co57) t191) ∧ Aside0 (Kd.R k67 67 wc w.heap.size (fun k_ => some k_ ≠ ((.slice Ao40 t164.length co40) : Value).ownBlock ∧ some k_ ≠ ((.slice Ao46 t188.length co46) : Value).ownBlock ∧ some k_ ≠ ((.slice Ao57 t177.length co57) : Value).ownBlock) (.slice Ao152 t200.length co152) t200) ∧ Aside0 (wc.heap[gb153]? = some (.cells #[(.slice A0_0 l0_0.length c0_0)] 24 (0, 0))) ∧ Aside0 (wc.heap[gb154]? = some (.cells #[.int .i64 a1_0, .string a1_1, .string a1_2, .string a1_3] 37 (0, 0))) ∧ Aside0 (wc.heap[gb168]? = some (.cells #[(.slice Ao40 t164.length co40)] 29 (0, 0))) ∧ Aside0 (wc.heap[gb172]? = some (.cells #[(.slice Ao46 t188.length co46)] 29 (0, 0))) ∧ Aside0 (wc.heap[gb181]? = some (.cells #[(.slice Ao57 t177.length co57)] 29 (0, 0))) ∧ Aside0 (wc.heap[gb204]? = some (.cells #[(.slice Ao152 t200.length co152)] 29 (0, 0))) ∧ Aside0 (Below w.heap.size w wc))
            case first =>
             have H := HC136.out
             clear HC136
             replace H := Option.bind_eq_some_iff.mp H
             obtain ⟨t205, A1540, H⟩ := H
             replace H : (if t205 = true then (laws_FnExactDoAct.j2 kj85 t190 (t203 != t167) t191) else (laws_FnExactDoAct.j2 kj85 t190 true t191)) = some r := H
             have A154 := Aside0.mk A1540
             clear A1540
             by_cases c155 : t205 = true
             ·subst c155
              have H1 : (laws_FnExactDoAct.j2 kj85 t190 (t203 != t167) t191) = some r := by rw [if_pos rfl] at H; exact H
              clear H
              have H := H1
              clear H1
              have H' := Aside0.mk H
              clear H
              have hnb156 := NB204_153.out; have hnc156 := NB153_204.out; have hnb157 := NB204_154.out; have hnc157 := NB154_204.out; have hnb158 := NB204_168.out; have hnc158 := NB168_204.out; have hnb159 := NB204_172.out; have hnc159 := NB172_204.out; have hnb160 := NB204_181.out; have hnc160 := NB181_204.out
              have hcz161_0 : w151.cell? ⟨gb204, 0, none⟩ = some (.slice none 0 0) := (blk_cell BK204.out 0).trans rfl
              have hfz161_0 := blk_frozen BK204.out 0
              have hnb162 := NB168_153.out; have hnc162 := NB153_168.out; have hnb163 := NB168_154.out; have hnc163 := NB154_168.out; have hnb164 := NB168_172.out; have hnc164 := NB172_168.out; have hnb165 := NB168_181.out; have hnc165 := NB181_168.out
              have hcz166_0 : w151.cell? ⟨gb168, 0, none⟩ = some (.slice Ao40 t164.length co40) := (blk_cell BK168.out 0).trans rfl
              have hfz166_0 := blk_frozen BK168.out 0
              go_wp2_with (first | ((with_reducible refine gate_callee (f := 16) rfl ?_); refine goesL_ (some 94) rfl rfl Try.func16 (by kernel_rfl) rfl #[.agg #[.slice Ao152 t200.length co152], .agg #[.slice Ao40 t164.length co40]] rfl (by (try simp only [List.map_toArray, List.map_cons, List.map_nil]); first | done | rfl | (simp only [List.length_drop, List.length_take]; rfl)) ?_; (with_reducible refine (laws_eqDisk.calls kj85 _ _ t200 _ _ t164 true _ ?side1 ?side2 ?side3 ?side4 A154.out).mono ?_); (case side1 => refine (Kd.R_reads' (e := 67) (base := w.heap.size) (ok := fun k_ => (some k_ ≠ (v194 : Value).ownBlock ∧ (some k_ ≠ (.slice Ao40 t164.length co40 : Value).ownBlock ∧ (some k_ ≠ (.slice Ao46 t188.length co46 : Value).ownBlock ∧ some k_ ≠ (.slice Ao57 t177.length co57 : Value).ownBlock)))) (n := t200.length) (c := co152) ?_).2.2; exact (by (with_reducible repeat (first | apply Kd.R_alloc | apply Kd.R_drewN | apply Kd.R_drew)); exact (Kd.R_mono (Kd.R_far (p := ⟨gb204, 0, none⟩) (Kd.R_types HO202.out BK204.out (by decide)) (fun _ hk => hk.2) (.slice Ao152 t200.length co152)) (fun _ h_ => h_.1)))); (case side2 => exact (Kd.R_reads' HO202.out).2.1); (case side3 => refine (Kd.R_reads' (e := 67) (base := w.heap.size) (ok := fun k_ => (some k_ ≠ (v194 : Value).ownBlock ∧ (some k_ ≠ (.slice Ao152 t200.length co152 : Value).ownBlock ∧ (some k_ ≠ (.slice Ao46 t188.length co46 : Value).ownBlock ∧ some k_ ≠ (.slice Ao57 t177.length co57 : Value).ownBlock)))) (n := t164.length) (c := co40) ?_).2.2; exact (by (with_reducible repeat (first | apply Kd.R_alloc | apply Kd.R_drewN | apply Kd.R_drew)); exact (Kd.R_mono (Kd.R_far (p := ⟨gb204, 0, none⟩) (Kd.R_types HO_169000.out BK204.out (by decide)) (fun _ hk => hk.2) (.slice Ao152 t200.length co152)) (fun _ h_ => h_.1)))); (case side4 => exact (Kd.R_reads' HO_169000.out).2.1); rintro e w167 ⟨rfl, hb⟩; refine ⟨_, rfl, ?_⟩; have n0_ := Aside0.mk (Kd.R_below (by (with_reducible repeat (first | apply Kd.R_alloc | apply Kd.R_drewN | apply Kd.R_drew)); exact (Kd.R_mono (Kd.R_far (p := ⟨gb204, 0, none⟩) (Kd.R_types HO_169000.out BK204.out (by decide)) (fun _ hk => hk.2) (.slice Ao152 t200.length co152)) (fun _ h_ => h_.1))) hb); have n1_ := Aside0.mk (Kd.R_below (by (with_reducible repeat (first | apply Kd.R_alloc | apply Kd.R_drewN | apply Kd.R_drew)); exact (Kd.R_mono (Kd.R_far (p := ⟨gb204, 0, none⟩) (Kd.R_types HO_173000.out BK204.out (by decide)) (fun _ hk => hk.2) (.slice Ao152 t200.length co152)) (fun _ h_ => h_.1))) hb); have n2_ := Aside0.mk (Kd.R_below (by (with_reducible repeat (first | apply Kd.R_alloc | apply Kd.R_drewN | apply Kd.R_drew)); exact (Kd.R_mono (Kd.R_far (p := ⟨gb204, 0, none⟩) (Kd.R_types HO_182000.out BK204.out (by decide)) (fun _ hk => hk.2) (.slice Ao152 t200.length co152)) (fun _ h_ => h_.1))) hb); have n3_ := Aside0.mk (Kd.R_below (by (with_reducible repeat (first | apply Kd.R_alloc | apply Kd.R_drewN | apply Kd.R_drew)); exact (Kd.R_mono (Kd.R_far (p := ⟨gb204, 0, none⟩) (Kd.R_types HO195.out BK204.out (by decide)) (fun _ hk => hk.2) (.slice Ao152 t200.length co152)) (fun _ h_ => h_.1))) hb); have n4_ := Aside0.mk (Kd.R_below (by (with_reducible repeat (first | apply Kd.R_alloc | apply Kd.R_drewN | apply Kd.R_drew)); exact (Kd.R_mono (Kd.R_far (p := ⟨gb204, 0, none⟩) (Kd.R_types HO202.out BK204.out (by decide)) (fun _ hk => hk.2) (.slice Ao152 t200.length co152)) (fun _ h_ => h_.1))) hb); have n5_ := Aside0.mk (blk_below (g := gb153) (o := .cells #[.slice A0_0 l0_0.length c0_0] 24 (0, 0)) (by (with_reducible repeat (first | refine blk_drewN ?_ _ | refine blk_drew ?_ | refine blk_alloc ?_ _)); refine blk_far ?_ NB153_204.out _; (with_reducible repeat (first | refine blk_drewN ?_ _ | refine blk_drew ?_ | refine blk_alloc ?_ _)); exact BK153.out) hb); have n6_ := Aside0.mk (blk_below (g := gb154) (o := .cells #[.int .i64 a1_0, .string a1_1, .string a1_2, .string a1_3] 37 (0, 0)) (by (with_reducible repeat (first | refine blk_drewN ?_ _ | refine blk_drew ?_ | refine blk_alloc ?_ _)); refine blk_far ?_ NB154_204.out _; (with_reducible repeat (first | refine blk_drewN ?_ _ | refine blk_drew ?_ | refine blk_alloc ?_ _)); exact BK154.out) hb); have n7_ := Aside0.mk (blk_below (g := gb168) (o := .cells #[.slice Ao40 t164.length co40] 29 (0, 0)) (by (with_reducible repeat (first | refine blk_drewN ?_ _ | refine blk_drew ?_ | refine blk_alloc ?_ _)); refine blk_far ?_ NB168_204.out _; (with_reducible repeat (first | refine blk_drewN ?_ _ | refine blk_drew ?_ | refine blk_alloc ?_ _)); exact BK168.out) hb); have n8_ := Aside0.mk (blk_below (g := gb172) (o := .cells #[.slice Ao46 t188.length co46] 29 (0, 0)) (by (with_reducible repeat (first | refine blk_drewN ?_ _ | refine blk_drew ?_ | refine blk_alloc ?_ _)); refine blk_far ?_ NB172_204.out _; (with_reducible repeat (first | refine blk_drewN ?_ _ | refine blk_drew ?_ | refine blk_alloc ?_ _)); exact BK172.out) hb); have n9_ := Aside0.mk (blk_below (g := gb181) (o := .cells #[.slice Ao57 t177.length co57] 29 (0, 0)) (by (with_reducible repeat (first | refine blk_drewN ?_ _ | refine blk_drew ?_ | refine blk_alloc ?_ _)); refine blk_far ?_ NB181_204.out _; (with_reducible repeat (first | refine blk_drewN ?_ _ | refine blk_drew ?_ | refine blk_alloc ?_ _)); exact BK181.out) hb); have n10_ := Aside0.mk (blk_below (g := gb204) (o := .cells #[.slice Ao152 t200.length co152] 29 (0, 0)) (by (with_reducible repeat (first | refine blk_drewN ?_ _ | refine blk_drew ?_ | refine blk_alloc ?_ _)); refine blk_put (cs := #[.slice none 0 0]) ?_ 0 _ rfl; (with_reducible repeat (first | refine blk_drewN ?_ _ | refine blk_drew ?_ | refine blk_alloc ?_ _)); exact BK204.out) hb); have n11_ := Aside0.mk (below_step (by repeat (first | (with_reducible first | exact HB.out | apply below_alloc | apply pw_below_drewN | apply below_drew1 | refine below_set ?_ GE153.out | refine below_set ?_ GE154.out | refine below_set ?_ GE168.out | refine below_set ?_ GE172.out | refine below_set ?_ GE181.out | refine below_set ?_ GE204.out) | exact HB.out)) hb); clear HO_169000; clear HO_173000; clear HO_182000; clear HO195; clear HO202; clear BK153; clear BK154; clear BK168; clear BK172; clear BK181; clear BK204; clear HB; have HO_169000 := n0_; have HO_173000 := n1_; have HO_182000 := n2_; have HO195 := n3_; have HO202 := n4_; have BK153 := n5_; have BK154 := n6_; have BK168 := n7_; have BK172 := n8_; have BK181 := n9_; have BK204 := n10_; have HB := n11_; clear n0_ n1_ n2_ n3_ n4_ n5_ n6_ n7_ n8_ n9_ n10_ n11_; (try clear hb); (try clear hb2); (try clear hk); (try clear hi)))
              go_meet
              case rel => exact ⟨_, ((t203 != t167)), (by first | rfl | (simp; done) | (simp [*]; done)), H', ⟨by have := HJ24.out; have := HJ85.out; first | omega | exact Nat.le_refl _⟩, ⟨by (try simp only [hl173000_85]); (with_reducible repeat (first | apply Kd.R_alloc | apply Kd.R_drewN | apply Kd.R_drew)); exact Kd.R_mono HO_169000.out (fun _ hk => ⟨hk.2.2.1, ⟨hk.2.2.2, hk.2.1⟩⟩)⟩, ⟨by (try simp only [hl173000_85]); (with_reducible repeat (first | apply Kd.R_alloc | apply Kd.R_drewN | apply Kd.R_drew)); exact Kd.R_mono HO_173000.out (fun _ hk => ⟨hk.2.2.1, ⟨hk.2.2.2, hk.2.1⟩⟩)⟩, ⟨by (try simp only [hl173000_85]); (with_reducible repeat (first | apply Kd.R_alloc | apply Kd.R_drewN | apply Kd.R_drew)); exact Kd.R_mono HO_182000.out (fun _ hk => ⟨hk.2.2.1, ⟨hk.2.2.2, hk.2.1⟩⟩)⟩, ⟨by (try simp only [hl173000_85]); (with_reducible repeat (first | apply Kd.R_alloc | apply Kd.R_drewN | apply Kd.R_drew)); exact Kd.R_mono HO202.out (fun _ hk => ⟨hk.2.1, ⟨hk.2.2.1, hk.2.2.2⟩⟩)⟩, ⟨by (try simp only [hl173000_85]); (with_reducible repeat (first | refine blk_drewN ?_ _ | refine blk_drew ?_ | refine blk_alloc ?_ _)); exact BK153.out⟩, ⟨by (try simp only [hl173000_85]); (with_reducible repeat (first | refine blk_drewN ?_ _ | refine blk_drew ?_ | refine blk_alloc ?_ _)); exact BK154.out⟩, ⟨by (try simp only [hl173000_85]); (with_reducible repeat (first | refine blk_drewN ?_ _ | refine blk_drew ?_ | refine blk_alloc ?_ _)); exact BK168.out⟩, ⟨by (try simp only [hl173000_85]); (with_reducible repeat (first | refine blk_drewN ?_ _ | refine blk_drew ?_ | refine blk_alloc ?_ _)); exact BK172.out⟩, ⟨by (try simp only [hl173000_85]); (with_reducible repeat (first | refine blk_drewN ?_ _ | refine blk_drew ?_ | refine blk_alloc ?_ _)); exact BK181.out⟩, ⟨by (try simp only [hl173000_85]); (with_reducible repeat (first | refine blk_drewN ?_ _ | refine blk_drew ?_ | refine blk_alloc ?_ _)); exact BK204.out⟩, ⟨by repeat (first | (with_reducible first | exact HB.out | apply below_alloc | apply pw_below_drewN | apply below_drew1 | refine below_set ?_ GE153.out | refine below_set ?_ GE154.out | refine below_set ?_ GE168.out | refine below_set ?_ GE172.out | refine below_set ?_ GE181.out | refine below_set ?_ GE204.out) | exact HB.out)⟩⟩
             ·replace c155 := Bool.eq_false_iff.mpr c155
              subst c155
              have H1 : (laws_FnExactDoAct.j2 kj85 t190 true t191) = some r := by rw [if_neg (show ¬ (false = true) by decide)] at H; exact H
              clear H
              have H := H1
              clear H1
              exact absurd H (by rw [hr_.out]; cases kj85 <;> simp [laws_FnExactDoAct.j2])
            case rest =>
             clear HC136
             try clear c1
             try clear c2
             try clear p2
             try clear c14
             try clear c15
             try clear c16
             try clear c17
             try clear c23
             try clear c24
             try clear c155
             try clear c156
             try clear c157
             try clear c158
             try clear c159
             try clear c160
             try clear c162
             try clear c163
             try clear c164
             try clear c165
             try clear c168
             try clear c169
             try clear c170
             try clear c171
             try clear c172
             try clear c174
             try clear c175
             try clear c176
             try clear c177
             try clear hcz161_0
             try clear hcz166_0
             try clear hcz173_0
             try clear hcz178_0
             try clear hfz161_0
             try clear hfz166_0
             try clear hfz173_0
             try clear hfz178_0
             obtain ⟨kq, x100_135, rfl, HA, HJ135, HO_169000, HO_173000, HO_182000, HO_205000, BK153, BK154, BK168, BK172, BK181, BK204, HB⟩ := hcut
             have hl182000_135 := (Kd.R_reads' HO_182000.out).1
             rw [hl182000_135] at HO_182000
             (try simp only [hl182000_135])
             (try simp only [hl182000_135] at BK153)
             (try simp only [hl182000_135] at BK154)
             (try simp only [hl182000_135] at BK168)
             (try simp only [hl182000_135] at BK172)
             (try simp only [hl182000_135] at BK181)
             (try simp only [hl182000_135] at BK204)
             (try simp only [hl182000_135] at HO_169000)
             (try simp only [hl182000_135] at HO_173000)
             (try simp only [hl182000_135] at HO_205000)
             cases kq with
             | zero => exact absurd HA.out (by simp [laws_FnExactDoAct.j2])
             | succ kj135 =>
              have H := HA.out
              clear HA
              simp only [laws_FnExactDoAct.j2] at H
              by_cases c180 : x100_135 = true
              ·subst c180
               have H1 : (some false) = some r := by rw [if_pos rfl] at H; exact H
               clear H
               have H := H1
               clear H1
               obtain rfl := Option.some.inj H
               exact absurd hr_.out (by decide)
              ·replace c180 := Bool.eq_false_iff.mpr c180
               subst c180
               have H1 : ((laws_heldDisk.f kj135 t191 1).bind fun t206 => (if t206 < 0 then (some false) else (if t206 = t190 then (some true) else (some false)))) = some r := by rw [if_neg (show ¬ (false = true) by decide)] at H; exact H
               clear H
               have H := H1
               clear H1
               replace H := Option.bind_eq_some_iff.mp H
               obtain ⟨t206, A1810, H⟩ := H
               replace H : (if t206 < 0 then (some false) else (if t206 = t190 then (some true) else (some false))) = some r := H
               have A181 := Aside0.mk A1810
               clear A1810
               by_cases c182 : t206 < 0
               ·rw [if_pos c182] at H
                have c182b0 : decide (t206 < 0) = true := decide_eq_true c182
                clear c182
                obtain rfl := Option.some.inj H
                have hnb183 := NB181_153.out; have hnc183 := NB153_181.out; have hnb184 := NB181_154.out; have hnc184 := NB154_181.out; have hnb185 := NB181_168.out; have hnc185 := NB168_181.out; have hnb186 := NB181_172.out; have hnc186 := NB172_181.out; have hnb187 := NB181_204.out; have hnc187 := NB204_181.out
                have hcz188_0 : wc.cell? ⟨gb181, 0, none⟩ = some (.slice Ao57 t191.length co57) := (blk_cell BK181.out 0).trans rfl
                have hfz188_0 := blk_frozen BK181.out 0
                go_wp2_with (first | ((with_reducible refine gate_callee (f := 26) rfl ?_); refine goesL_ (some 103) rfl rfl Try.func26 (by kernel_rfl) rfl #[.agg #[.slice Ao57 t191.length co57], .int .i64 1] rfl (by (try simp only [List.map_toArray, List.map_cons, List.map_nil]); first | done | rfl | (simp only [List.length_drop, List.length_take]; rfl)) ?_; (with_reducible refine (laws_heldDisk.calls kj135 _ _ t191 1 t206 _ ?side1 ?side2 A181.out).mono ?_); (case side1 => repeat (first | exact (Kd.R_reads' HO_182000.out).2.2 | (with_reducible refine Kd.C_alloc ?_ _) | (with_reducible refine Kd.C_drewN ?_ _) | (with_reducible refine Kd.C_drew ?_))); (case side2 => exact (Kd.R_reads' HO_182000.out).2.1); rintro e w189 ⟨rfl, hb⟩; refine ⟨_, rfl, ?_⟩; have n0_ := Aside0.mk (Kd.R_below (by (with_reducible repeat (first | apply Kd.R_alloc | apply Kd.R_drewN | apply Kd.R_drew)); exact HO_169000.out) hb); have n1_ := Aside0.mk (Kd.R_below (by (with_reducible repeat (first | apply Kd.R_alloc | apply Kd.R_drewN | apply Kd.R_drew)); exact HO_173000.out) hb); have n2_ := Aside0.mk (Kd.R_below (by (with_reducible repeat (first | apply Kd.R_alloc | apply Kd.R_drewN | apply Kd.R_drew)); exact HO_182000.out) hb); have n3_ := Aside0.mk (Kd.R_below (by (with_reducible repeat (first | apply Kd.R_alloc | apply Kd.R_drewN | apply Kd.R_drew)); exact HO_205000.out) hb); have n4_ := Aside0.mk (blk_below (g := gb153) (o := .cells #[.slice A0_0 l0_0.length c0_0] 24 (0, 0)) (by (with_reducible repeat (first | refine blk_drewN ?_ _ | refine blk_drew ?_ | refine blk_alloc ?_ _)); exact BK153.out) hb); have n5_ := Aside0.mk (blk_below (g := gb154) (o := .cells #[.int .i64 a1_0, .string a1_1, .string a1_2, .string a1_3] 37 (0, 0)) (by (with_reducible repeat (first | refine blk_drewN ?_ _ | refine blk_drew ?_ | refine blk_alloc ?_ _)); exact BK154.out) hb); have n6_ := Aside0.mk (blk_below (g := gb168) (o := .cells #[.slice Ao40 t164.length co40] 29 (0, 0)) (by (with_reducible repeat (first | refine blk_drewN ?_ _ | refine blk_drew ?_ | refine blk_alloc ?_ _)); exact BK168.out) hb); have n7_ := Aside0.mk (blk_below (g := gb172) (o := .cells #[.slice Ao46 t188.length co46] 29 (0, 0)) (by (with_reducible repeat (first | refine blk_drewN ?_ _ | refine blk_drew ?_ | refine blk_alloc ?_ _)); exact BK172.out) hb); have n8_ := Aside0.mk (blk_below (g := gb181) (o := .cells #[.slice Ao57 t191.length co57] 29 (0, 0)) (by (with_reducible repeat (first | refine blk_drewN ?_ _ | refine blk_drew ?_ | refine blk_alloc ?_ _)); exact BK181.out) hb); have n9_ := Aside0.mk (blk_below (g := gb204) (o := .cells #[.slice Ao152 t200.length co152] 29 (0, 0)) (by (with_reducible repeat (first | refine blk_drewN ?_ _ | refine blk_drew ?_ | refine blk_alloc ?_ _)); exact BK204.out) hb); have n10_ := Aside0.mk (below_step (by repeat (first | (with_reducible first | exact HB.out | apply below_alloc | apply pw_below_drewN | apply below_drew1 | refine below_set ?_ GE153.out | refine below_set ?_ GE154.out | refine below_set ?_ GE168.out | refine below_set ?_ GE172.out | refine below_set ?_ GE181.out | refine below_set ?_ GE204.out) | exact HB.out)) hb); clear HO_169000; clear HO_173000; clear HO_182000; clear HO_205000; clear BK153; clear BK154; clear BK168; clear BK172; clear BK181; clear BK204; clear HB; have HO_169000 := n0_; have HO_173000 := n1_; have HO_182000 := n2_; have HO_205000 := n3_; have BK153 := n4_; have BK154 := n5_; have BK168 := n6_; have BK172 := n7_; have BK181 := n8_; have BK204 := n9_; have HB := n10_; clear n0_ n1_ n2_ n3_ n4_ n5_ n6_ n7_ n8_ n9_ n10_; (try clear hb); (try clear hb2); (try clear hk); (try clear hi)))
                go_ret
                exact ⟨by first | rfl | (simp [errW_none, errW_some] <;> rfl) | (simp [*, errW_none, errW_some] <;> rfl), by repeat (first | (with_reducible first | exact HB.out | apply below_alloc | apply pw_below_drewN | apply below_drew1 | refine below_set ?_ GE153.out | refine below_set ?_ GE154.out | refine below_set ?_ GE168.out | refine below_set ?_ GE172.out | refine below_set ?_ GE181.out | refine below_set ?_ GE204.out) | exact HB.out)⟩
               ·rw [if_neg c182] at H
                have c182b0 : decide (t206 < 0) = false := decide_eq_false c182
                clear c182
                by_cases c190 : t206 = t190
                ·rw [if_pos c190] at H
                 have c190b0 : (t206 == t190) = true := beq_iff_eq.mpr c190
                 have c190b1 : (t206 != t190) = false := bne_eq_false_iff_eq.mpr c190
                 clear c190
                 obtain rfl := Option.some.inj H
                 have hnb191 := NB181_153.out; have hnc191 := NB153_181.out; have hnb192 := NB181_154.out; have hnc192 := NB154_181.out; have hnb193 := NB181_168.out; have hnc193 := NB168_181.out; have hnb194 := NB181_172.out; have hnc194 := NB172_181.out; have hnb195 := NB181_204.out; have hnc195 := NB204_181.out
                 have hcz196_0 : wc.cell? ⟨gb181, 0, none⟩ = some (.slice Ao57 t191.length co57) := (blk_cell BK181.out 0).trans rfl
                 have hfz196_0 := blk_frozen BK181.out 0
                 go_wp2_with (first | ((with_reducible refine gate_callee (f := 26) rfl ?_); refine goesL_ (some 103) rfl rfl Try.func26 (by kernel_rfl) rfl #[.agg #[.slice Ao57 t191.length co57], .int .i64 1] rfl (by (try simp only [List.map_toArray, List.map_cons, List.map_nil]); first | done | rfl | (simp only [List.length_drop, List.length_take]; rfl)) ?_; (with_reducible refine (laws_heldDisk.calls kj135 _ _ t191 1 t206 _ ?side1 ?side2 A181.out).mono ?_); (case side1 => repeat (first | exact (Kd.R_reads' HO_182000.out).2.2 | (with_reducible refine Kd.C_alloc ?_ _) | (with_reducible refine Kd.C_drewN ?_ _) | (with_reducible refine Kd.C_drew ?_))); (case side2 => exact (Kd.R_reads' HO_182000.out).2.1); rintro e w197 ⟨rfl, hb⟩; refine ⟨_, rfl, ?_⟩; have n0_ := Aside0.mk (Kd.R_below (by (with_reducible repeat (first | apply Kd.R_alloc | apply Kd.R_drewN | apply Kd.R_drew)); exact HO_169000.out) hb); have n1_ := Aside0.mk (Kd.R_below (by (with_reducible repeat (first | apply Kd.R_alloc | apply Kd.R_drewN | apply Kd.R_drew)); exact HO_173000.out) hb); have n2_ := Aside0.mk (Kd.R_below (by (with_reducible repeat (first | apply Kd.R_alloc | apply Kd.R_drewN | apply Kd.R_drew)); exact HO_182000.out) hb); have n3_ := Aside0.mk (Kd.R_below (by (with_reducible repeat (first | apply Kd.R_alloc | apply Kd.R_drewN | apply Kd.R_drew)); exact HO_205000.out) hb); have n4_ := Aside0.mk (blk_below (g := gb153) (o := .cells #[.slice A0_0 l0_0.length c0_0] 24 (0, 0)) (by (with_reducible repeat (first | refine blk_drewN ?_ _ | refine blk_drew ?_ | refine blk_alloc ?_ _)); exact BK153.out) hb); have n5_ := Aside0.mk (blk_below (g := gb154) (o := .cells #[.int .i64 a1_0, .string a1_1, .string a1_2, .string a1_3] 37 (0, 0)) (by (with_reducible repeat (first | refine blk_drewN ?_ _ | refine blk_drew ?_ | refine blk_alloc ?_ _)); exact BK154.out) hb); have n6_ := Aside0.mk (blk_below (g := gb168) (o := .cells #[.slice Ao40 t164.length co40] 29 (0, 0)) (by (with_reducible repeat (first | refine blk_drewN ?_ _ | refine blk_drew ?_ | refine blk_alloc ?_ _)); exact BK168.out) hb); have n7_ := Aside0.mk (blk_below (g := gb172) (o := .cells #[.slice Ao46 t188.length co46] 29 (0, 0)) (by (with_reducible repeat (first | refine blk_drewN ?_ _ | refine blk_drew ?_ | refine blk_alloc ?_ _)); exact BK172.out) hb); have n8_ := Aside0.mk (blk_below (g := gb181) (o := .cells #[.slice Ao57 t191.length co57] 29 (0, 0)) (by (with_reducible repeat (first | refine blk_drewN ?_ _ | refine blk_drew ?_ | refine blk_alloc ?_ _)); exact BK181.out) hb); have n9_ := Aside0.mk (blk_below (g := gb204) (o := .cells #[.slice Ao152 t200.length co152] 29 (0, 0)) (by (with_reducible repeat (first | refine blk_drewN ?_ _ | refine blk_drew ?_ | refine blk_alloc ?_ _)); exact BK204.out) hb); have n10_ := Aside0.mk (below_step (by repeat (first | (with_reducible first | exact HB.out | apply below_alloc | apply pw_below_drewN | apply below_drew1 | refine below_set ?_ GE153.out | refine below_set ?_ GE154.out | refine below_set ?_ GE168.out | refine below_set ?_ GE172.out | refine below_set ?_ GE181.out | refine below_set ?_ GE204.out) | exact HB.out)) hb); clear HO_169000; clear HO_173000; clear HO_182000; clear HO_205000; clear BK153; clear BK154; clear BK168; clear BK172; clear BK181; clear BK204; clear HB; have HO_169000 := n0_; have HO_173000 := n1_; have HO_182000 := n2_; have HO_205000 := n3_; have BK153 := n4_; have BK154 := n5_; have BK168 := n6_; have BK172 := n7_; have BK181 := n8_; have BK204 := n9_; have HB := n10_; clear n0_ n1_ n2_ n3_ n4_ n5_ n6_ n7_ n8_ n9_ n10_; (try clear hb); (try clear hb2); (try clear hk); (try clear hi)))
                 go_ret
                 exact ⟨by first | rfl | (simp [errW_none, errW_some] <;> rfl) | (simp [*, errW_none, errW_some] <;> rfl), by repeat (first | (with_reducible first | exact HB.out | apply below_alloc | apply pw_below_drewN | apply below_drew1 | refine below_set ?_ GE153.out | refine below_set ?_ GE154.out | refine below_set ?_ GE168.out | refine below_set ?_ GE172.out | refine below_set ?_ GE181.out | refine below_set ?_ GE204.out) | exact HB.out)⟩
                ·rw [if_neg c190] at H
                 have c190b0 : (t206 == t190) = false := beq_eq_false_iff_ne.mpr c190
                 have c190b1 : (t206 != t190) = true := bne_iff_ne.mpr c190
                 obtain rfl := Option.some.inj H
                 exact absurd hr_.out (by decide)
           ·rw [if_neg c132] at H
            have c132b0 : (t192 == t190) = false := beq_eq_false_iff_ne.mpr c132
            have c132b1 : (t192 != t190) = true := bne_iff_ne.mpr c132
            obtain rfl := Option.some.inj H
            exact absurd hr_.out (by decide)
      ·replace c84 := Bool.eq_false_iff.mpr c84
       subst c84
       have H1 : (some false) = some r := by rw [if_neg (show ¬ (false = true) by decide)] at H; exact H
       clear H
       have H := H1
       clear H1
       obtain rfl := Option.some.inj H
       exact absurd hr_.out (by decide)
/-- what is known of an element that came in -/
def good96 (x : S96) : Prop := x.f0.size ≤ 9223372036854775807 ∧ x.f1.size ≤ 9223372036854775807 ∧ (Lit.int .i64 x.f2).wf = true

/-- The pure statement of laws_FnExactDoAct. -/
def laws_FnExactDoAct.Pure : Prop := ∀ (l0_0 : List (S96)) (a1_0 : Int) (a1_1 : ByteArray) (a1_2 : ByteArray) (a1_3 : ByteArray), l0_0.length ≤ 9223372036854775807 → (∀ x ∈ l0_0, good96 x) → (Lit.int .i64 a1_0).wf = true → a1_1.size ≤ 9223372036854775807 → a1_2.size ≤ 9223372036854775807 → a1_3.size ≤ 9223372036854775807 → ∃ k, laws_FnExactDoAct.f k l0_0 a1_0 a1_1 a1_2 a1_3 = some true

end Go.Proofs.Yteghgeanbglmoaa.PFnExactDoAct
