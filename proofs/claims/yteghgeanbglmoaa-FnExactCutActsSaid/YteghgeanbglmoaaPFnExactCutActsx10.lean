-- a text of this session's program wip/hyb.py (over the kit's print), out of the translation
import Derived.Test.YteghgeanbglmoaaPFnExactCutActsx0
import Derived.Test.YteghgeanbglmoaaDkFnExactCutActsZ
import Derived.Test.YteghgeanbglmoaaPFnExactCutActsx1
import Derived.Test.YteghgeanbglmoaaPFnExactCutActsx2
import Derived.Test.YteghgeanbglmoaaPFnExactCutActsx3
import Derived.Test.YteghgeanbglmoaaPFnExactCutActsx4
import Derived.Test.YteghgeanbglmoaaPFnExactCutActsx5
import Derived.Test.YteghgeanbglmoaaPFnExactCutActsx8
import Derived.Test.YteghgeanbglmoaaPFnExactCutActsx9
namespace Go.Proofs.Yteghgeanbglmoaa.PFnExactCutActs
open Go.RowKit Go.Proofs.YteghgeanbglmoaaW.PrintWords Go.Proofs.YteghgeanbglmoaaW.PrintLast Go.Proofs.YteghgeanbglmoaaW.PrintMore
attribute [local go_sem] max2_int min2_int max_two min_two max_three min_three max_four min_four   -- for this text's walks alone
set_option linter.unusedVariables false
set_option linter.unusedSimpArgs false

/-! ### laws_FnExactCutActs: function 9 -/
mutual
def laws_FnExactCutActs.j0 : Nat → List (S37) → Int → List Int → Bool → List (S41) → List Int → Bool → Bool → List (S96) → List (S67) → List (S67) → List (S67) → Option (Bool)
  | 0, _, _, _, _, _, _, _, _, _, _, _, _ => none
  | k + 1, x1, x2, x3, x11, x13, x14, x16, x68, x264000, x280000, x284000, x295000 => if x68 = true then (some false) else ((laws_toDisk.f k x264000).bind fun t296 => ((laws_eqDisk.f k x284000 t296).bind fun t299 => (if t299 = true then ((laws_toActS.f k x1).bind fun t300 => ((laws_eqActS.f k x13 t300).bind fun t303 => (if t303 = true then ((laws_toIntS.f k x3).bind fun t304 => ((laws_eqIntS.f k x14 t304).bind fun t307 => (if t307 = true then ((laws_markDisk.f k x284000 1).bind fun bt308 => ((laws_markActS.f k x13 bt308.1).bind fun bt310 => ((laws_markIntS.f k x14 bt310.1).bind fun bt312 => (if bt312.1 < 0 then (laws_FnExactCutActs.j1 k x1 x2 x3 x11 true x264000 x280000 x295000) else ((laws_eqDisk.f k x295000 x280000).bind fun t314 => (if t314 = true then (laws_FnExactCutActs.j1 k x1 x2 x3 x11 (x16 != x11) x264000 x280000 x295000) else (laws_FnExactCutActs.j1 k x1 x2 x3 x11 true x264000 x280000 x295000))))))) else (some false)))) else (some false)))) else (some false))))
def laws_FnExactCutActs.j1 : Nat → List (S37) → Int → List Int → Bool → Bool → List (S96) → List (S67) → List (S67) → Option (Bool)
  | 0, _, _, _, _, _, _, _, _ => none
  | k + 1, x1, x2, x3, x11, x105, x264000, x280000, x295000 => if x105 = true then (some false) else ((laws_markDisk.f k x295000 1).bind fun bt315 => ((laws_heldDisk.f k bt315.2 1).bind fun t317 => (if t317 < 0 then (some false) else (if t317 = bt315.1 then ((laws_toDisk.f k x264000).bind fun t318 => ((laws_toActS.f k x1).bind fun t321 => ((laws_toIntS.f k x3).bind fun t324 => ((impl_CutActs.f k t318 t321 x2 t324).bind fun bt327 => ((laws_eqDisk.f k bt327.1 x280000).bind fun t332 => (if t332 = true then (laws_FnExactCutActs.j2 k bt315.1 (bt327.2 != x11) bt315.2) else (laws_FnExactCutActs.j2 k bt315.1 true bt315.2))))))) else (some false)))))
def laws_FnExactCutActs.j2 : Nat → Int → Bool → List (S67) → Option (Bool)
  | 0, _, _, _ => none
  | k + 1, x18, x136, x295000 => if x136 = true then (some false) else ((laws_heldDisk.f k x295000 1).bind fun t333 => (if t333 < 0 then (some false) else (if t333 = x18 then (some true) else (some false))))
end
def laws_FnExactCutActs.f (k : Nat) (l0_0 : List (S96)) (l1 : List (S37)) (a2 : Int) (l3 : List Int) : Option (Bool) := if (l3.length : Int) > 1048576 then (some true) else ((laws_szDisk.f k l0_0 1048576).bind fun t264 => (if t264 < 0 then (some true) else ((laws_szActS.f k l1 t264).bind fun t265 => (if t265 < 0 then (some true) else ((laws_toDisk.f k l0_0).bind fun t266 => ((laws_toActS.f k l1).bind fun t269 => ((laws_toIntS.f k l3).bind fun t272 => ((spec_CutActs.f k t266 t269 a2 t272).bind fun bt275 => ((laws_toDisk.f k l0_0).bind fun t280 => ((laws_toActS.f k l1).bind fun t284 => ((laws_toIntS.f k l3).bind fun t287 => ((impl_CutActs.f k t280 t284 a2 t287).bind fun bt290 => ((laws_eqDisk.f k bt290.1 bt275.1).bind fun t295 => (if t295 = true then (laws_FnExactCutActs.j0 k l1 a2 l3 bt275.2 t284 t287 bt290.2 (bt290.2 != bt275.2) l0_0 bt275.1 t280 bt290.1) else (laws_FnExactCutActs.j0 k l1 a2 l3 bt275.2 t284 t287 bt290.2 true l0_0 bt275.1 t280 bt290.1)))))))))))))))
theorem laws_FnExactCutActs.mono_l : ∀ k, (∀ y0 y1 y2 y3 y4 y5 y6 y7 y8 y9 y10 y11, LeO (laws_FnExactCutActs.j0 k y0 y1 y2 y3 y4 y5 y6 y7 y8 y9 y10 y11) (laws_FnExactCutActs.j0 (k + 1) y0 y1 y2 y3 y4 y5 y6 y7 y8 y9 y10 y11)) ∧ (∀ y0 y1 y2 y3 y4 y5 y6 y7, LeO (laws_FnExactCutActs.j1 k y0 y1 y2 y3 y4 y5 y6 y7) (laws_FnExactCutActs.j1 (k + 1) y0 y1 y2 y3 y4 y5 y6 y7)) ∧ (∀ y0 y1 y2, LeO (laws_FnExactCutActs.j2 k y0 y1 y2) (laws_FnExactCutActs.j2 (k + 1) y0 y1 y2))
  | 0 => ⟨fun _ _ _ _ _ _ _ _ _ _ _ _ r h => by simp [laws_FnExactCutActs.j0] at h, fun _ _ _ _ _ _ _ _ r h => by simp [laws_FnExactCutActs.j1] at h, fun _ _ _ r h => by simp [laws_FnExactCutActs.j2] at h⟩
  | k + 1 => by
    obtain ⟨ih0, ih1, ih2⟩ := laws_FnExactCutActs.mono_l k
    refine ⟨?_, ?_, ?_⟩
    · intro y0 y1 y2 y3 y4 y5 y6 y7 y8 y9 y10 y11
      unfold laws_FnExactCutActs.j0
      repeat' first
      | (with_reducible exact ih0 _ _ _ _ _ _ _ _ _ _ _ _)
      | (with_reducible exact ih1 _ _ _ _ _ _ _ _)
      | (with_reducible exact ih2 _ _ _)
      | (with_reducible exact impl_CutActs.mono _ _ _ _ _)
      | (with_reducible exact laws_eqActS.mono _ _ _)
      | (with_reducible exact laws_eqDisk.mono _ _ _)
      | (with_reducible exact laws_eqIntS.mono _ _ _)
      | (with_reducible exact laws_heldDisk.mono _ _ _)
      | (with_reducible exact laws_markActS.mono _ _ _)
      | (with_reducible exact laws_markDisk.mono _ _ _)
      | (with_reducible exact laws_markIntS.mono _ _ _)
      | (with_reducible exact laws_szActS.mono _ _ _)
      | (with_reducible exact laws_szDisk.mono _ _ _)
      | (with_reducible exact laws_toActS.mono _ _)
      | (with_reducible exact laws_toDisk.mono _ _)
      | (with_reducible exact laws_toIntS.mono _ _)
      | (with_reducible exact spec_CutActs.mono _ _ _ _ _)
      | (with_reducible exact LeO.refl _)
      | (with_reducible exact LeO.none _)
      | (with_reducible refine LeO.ite ?_ ?_)
      | (with_reducible refine LeO.bind ?_ (fun _ => ?_))
      | exact ih0 _ _ _ _ _ _ _ _ _ _ _ _
      | exact ih1 _ _ _ _ _ _ _ _
      | exact ih2 _ _ _
      | exact impl_CutActs.mono _ _ _ _ _
      | exact laws_eqActS.mono _ _ _
      | exact laws_eqDisk.mono _ _ _
      | exact laws_eqIntS.mono _ _ _
      | exact laws_heldDisk.mono _ _ _
      | exact laws_markActS.mono _ _ _
      | exact laws_markDisk.mono _ _ _
      | exact laws_markIntS.mono _ _ _
      | exact laws_szActS.mono _ _ _
      | exact laws_szDisk.mono _ _ _
      | exact laws_toActS.mono _ _
      | exact laws_toDisk.mono _ _
      | exact laws_toIntS.mono _ _
      | exact spec_CutActs.mono _ _ _ _ _
      | exact LeO.none _
      | refine LeO.ite ?_ ?_
      | refine LeO.bind ?_ (fun _ => ?_)
    · intro y0 y1 y2 y3 y4 y5 y6 y7
      unfold laws_FnExactCutActs.j1
      repeat' first
      | (with_reducible exact ih0 _ _ _ _ _ _ _ _ _ _ _ _)
      | (with_reducible exact ih1 _ _ _ _ _ _ _ _)
      | (with_reducible exact ih2 _ _ _)
      | (with_reducible exact impl_CutActs.mono _ _ _ _ _)
      | (with_reducible exact laws_eqActS.mono _ _ _)
      | (with_reducible exact laws_eqDisk.mono _ _ _)
      | (with_reducible exact laws_eqIntS.mono _ _ _)
      | (with_reducible exact laws_heldDisk.mono _ _ _)
      | (with_reducible exact laws_markActS.mono _ _ _)
      | (with_reducible exact laws_markDisk.mono _ _ _)
      | (with_reducible exact laws_markIntS.mono _ _ _)
      | (with_reducible exact laws_szActS.mono _ _ _)
      | (with_reducible exact laws_szDisk.mono _ _ _)
      | (with_reducible exact laws_toActS.mono _ _)
      | (with_reducible exact laws_toDisk.mono _ _)
      | (with_reducible exact laws_toIntS.mono _ _)
      | (with_reducible exact spec_CutActs.mono _ _ _ _ _)
      | (with_reducible exact LeO.refl _)
      | (with_reducible exact LeO.none _)
      | (with_reducible refine LeO.ite ?_ ?_)
      | (with_reducible refine LeO.bind ?_ (fun _ => ?_))
      | exact ih0 _ _ _ _ _ _ _ _ _ _ _ _
      | exact ih1 _ _ _ _ _ _ _ _
      | exact ih2 _ _ _
      | exact impl_CutActs.mono _ _ _ _ _
      | exact laws_eqActS.mono _ _ _
      | exact laws_eqDisk.mono _ _ _
      | exact laws_eqIntS.mono _ _ _
      | exact laws_heldDisk.mono _ _ _
      | exact laws_markActS.mono _ _ _
      | exact laws_markDisk.mono _ _ _
      | exact laws_markIntS.mono _ _ _
      | exact laws_szActS.mono _ _ _
      | exact laws_szDisk.mono _ _ _
      | exact laws_toActS.mono _ _
      | exact laws_toDisk.mono _ _
      | exact laws_toIntS.mono _ _
      | exact spec_CutActs.mono _ _ _ _ _
      | exact LeO.none _
      | refine LeO.ite ?_ ?_
      | refine LeO.bind ?_ (fun _ => ?_)
    · intro y0 y1 y2
      unfold laws_FnExactCutActs.j2
      repeat' first
      | (with_reducible exact ih0 _ _ _ _ _ _ _ _ _ _ _ _)
      | (with_reducible exact ih1 _ _ _ _ _ _ _ _)
      | (with_reducible exact ih2 _ _ _)
      | (with_reducible exact impl_CutActs.mono _ _ _ _ _)
      | (with_reducible exact laws_eqActS.mono _ _ _)
      | (with_reducible exact laws_eqDisk.mono _ _ _)
      | (with_reducible exact laws_eqIntS.mono _ _ _)
      | (with_reducible exact laws_heldDisk.mono _ _ _)
      | (with_reducible exact laws_markActS.mono _ _ _)
      | (with_reducible exact laws_markDisk.mono _ _ _)
      | (with_reducible exact laws_markIntS.mono _ _ _)
      | (with_reducible exact laws_szActS.mono _ _ _)
      | (with_reducible exact laws_szDisk.mono _ _ _)
      | (with_reducible exact laws_toActS.mono _ _)
      | (with_reducible exact laws_toDisk.mono _ _)
      | (with_reducible exact laws_toIntS.mono _ _)
      | (with_reducible exact spec_CutActs.mono _ _ _ _ _)
      | (with_reducible exact LeO.refl _)
      | (with_reducible exact LeO.none _)
      | (with_reducible refine LeO.ite ?_ ?_)
      | (with_reducible refine LeO.bind ?_ (fun _ => ?_))
      | exact ih0 _ _ _ _ _ _ _ _ _ _ _ _
      | exact ih1 _ _ _ _ _ _ _ _
      | exact ih2 _ _ _
      | exact impl_CutActs.mono _ _ _ _ _
      | exact laws_eqActS.mono _ _ _
      | exact laws_eqDisk.mono _ _ _
      | exact laws_eqIntS.mono _ _ _
      | exact laws_heldDisk.mono _ _ _
      | exact laws_markActS.mono _ _ _
      | exact laws_markDisk.mono _ _ _
      | exact laws_markIntS.mono _ _ _
      | exact laws_szActS.mono _ _ _
      | exact laws_szDisk.mono _ _ _
      | exact laws_toActS.mono _ _
      | exact laws_toDisk.mono _ _
      | exact laws_toIntS.mono _ _
      | exact spec_CutActs.mono _ _ _ _ _
      | exact LeO.none _
      | refine LeO.ite ?_ ?_
      | refine LeO.bind ?_ (fun _ => ?_)
theorem laws_FnExactCutActs.mono : ∀ a0 a1 a2 a3 k, LeO (laws_FnExactCutActs.f k a0 a1 a2 a3) (laws_FnExactCutActs.f (k + 1) a0 a1 a2 a3) := by
  intro a0 a1 a2 a3 k
  obtain ⟨ih0, ih1, ih2⟩ := laws_FnExactCutActs.mono_l k
  unfold laws_FnExactCutActs.f
  repeat' first
      | (with_reducible exact ih0 _ _ _ _ _ _ _ _ _ _ _ _)
      | (with_reducible exact ih1 _ _ _ _ _ _ _ _)
      | (with_reducible exact ih2 _ _ _)
      | (with_reducible exact impl_CutActs.mono _ _ _ _ _)
      | (with_reducible exact laws_eqActS.mono _ _ _)
      | (with_reducible exact laws_eqDisk.mono _ _ _)
      | (with_reducible exact laws_eqIntS.mono _ _ _)
      | (with_reducible exact laws_heldDisk.mono _ _ _)
      | (with_reducible exact laws_markActS.mono _ _ _)
      | (with_reducible exact laws_markDisk.mono _ _ _)
      | (with_reducible exact laws_markIntS.mono _ _ _)
      | (with_reducible exact laws_szActS.mono _ _ _)
      | (with_reducible exact laws_szDisk.mono _ _ _)
      | (with_reducible exact laws_toActS.mono _ _)
      | (with_reducible exact laws_toDisk.mono _ _)
      | (with_reducible exact laws_toIntS.mono _ _)
      | (with_reducible exact spec_CutActs.mono _ _ _ _ _)
      | (with_reducible exact LeO.refl _)
      | (with_reducible exact LeO.none _)
      | (with_reducible refine LeO.ite ?_ ?_)
      | (with_reducible refine LeO.bind ?_ (fun _ => ?_))
      | exact ih0 _ _ _ _ _ _ _ _ _ _ _ _
      | exact ih1 _ _ _ _ _ _ _ _
      | exact ih2 _ _ _
      | exact impl_CutActs.mono _ _ _ _ _
      | exact laws_eqActS.mono _ _ _
      | exact laws_eqDisk.mono _ _ _
      | exact laws_eqIntS.mono _ _ _
      | exact laws_heldDisk.mono _ _ _
      | exact laws_markActS.mono _ _ _
      | exact laws_markDisk.mono _ _ _
      | exact laws_markIntS.mono _ _ _
      | exact laws_szActS.mono _ _ _
      | exact laws_szDisk.mono _ _ _
      | exact laws_toActS.mono _ _
      | exact laws_toDisk.mono _ _
      | exact laws_toIntS.mono _ _
      | exact spec_CutActs.mono _ _ _ _ _
      | exact LeO.none _
      | refine LeO.ite ?_ ?_
      | refine LeO.bind ?_ (fun _ => ?_)
set_option maxHeartbeats 8000000 in
set_option maxRecDepth 100000 in
theorem laws_FnExactCutActs.calls (k : Nat) (A0_0 : Option Addr) (c0_0 : Nat) (l0_0 : List (S96)) (A1 : Option Addr) (c1 : Nat) (l1 : List (S37)) (a2 : Int) (A3 : Option Addr) (c3 : Nat) (l3 : List Int) (r : Bool) (w : World) (hr0_0 : Kd.C k96 w A0_0 l0_0.length l0_0) (hc0_0 : l0_0.length ≤ c0_0) (hr1 : Kd.C k37 w A1 l1.length l1) (hc1 : l1.length ≤ c1) (hr3 : Kd.C (Kd.int .i64) w A3 l3.length l3) (hc3 : l3.length ≤ c3) (h : laws_FnExactCutActs.f k l0_0 l1 a2 l3 = some r) (hr_ : r = true) :
  Calls Try.prog 9 #[.agg #[.slice A0_0 l0_0.length c0_0], .slice A1 l1.length c1, .int .i64 a2, .slice A3 l3.length c3] w fun e w' => e = .returned (.bool r) ∧ Below w.heap.size w w' := by
 replace hr_ := Aside0.mk hr_
 have hu24 := Try.underlying24
 have hu29 := Try.underlying29
 have HR0_0 := Aside0.mk hr0_0
 have HC0_0 := Aside0.mk hc0_0
 clear hr0_0 hc0_0
 have HR1 := Aside0.mk hr1
 have HC1 := Aside0.mk hc1
 clear hr1 hc1
 have HR3 := Aside0.mk hr3
 have HC3 := Aside0.mk hc3
 clear hr3 hc3
 have HB := Aside0.mk (Below.refl w.heap.size w)
 have H : (if (l3.length : Int) > 1048576 then (some true) else ((laws_szDisk.f k l0_0 1048576).bind fun t264 => (if t264 < 0 then (some true) else ((laws_szActS.f k l1 t264).bind fun t265 => (if t265 < 0 then (some true) else ((laws_toDisk.f k l0_0).bind fun t266 => ((laws_toActS.f k l1).bind fun t269 => ((laws_toIntS.f k l3).bind fun t272 => ((spec_CutActs.f k t266 t269 a2 t272).bind fun bt275 => ((laws_toDisk.f k l0_0).bind fun t280 => ((laws_toActS.f k l1).bind fun t284 => ((laws_toIntS.f k l3).bind fun t287 => ((impl_CutActs.f k t280 t284 a2 t287).bind fun bt290 => ((laws_eqDisk.f k bt290.1 bt275.1).bind fun t295 => (if t295 = true then (laws_FnExactCutActs.j0 k l1 a2 l3 bt275.2 t284 t287 bt290.2 (bt290.2 != bt275.2) l0_0 bt275.1 t280 bt290.1) else (laws_FnExactCutActs.j0 k l1 a2 l3 bt275.2 t284 t287 bt290.2 true l0_0 bt275.1 t280 bt290.1)))))))))))))))) = some r := h
 clear h
 by_cases c5 : (l3.length : Int) > 1048576
 ·rw [if_pos c5] at H
  have c5b0 : decide (1048576 < (l3.length : Int)) = true := decide_eq_true c5
  have c5b1 : decide (1048576 < l3.length) = true := decide_eq_true (by omega)
  clear c5
  obtain rfl := Option.some.inj H
  go_enter Try.func9, Try.ntmps9
  go_wp2_with (first | ((with_reducible refine gate_dst (N := 4) rfl ?_); refine box_event ?hg (N := 4) ?hd (cs := #[.slice A0_0 l0_0.length c0_0]) (t := 24) ?hr ?_; (case hd => rfl); (case hg => rfl); (case hr => first | (go_simp; done) | (go_simp; rfl)); intro gb263 hg w6 hbox hb; have n0_ := Aside0.mk (below_step (hh_ HB) hb); have n1_ := Aside0.mk (hbox); have n2_ := Aside0.mk ((by rw [hg]; exact (below_size (hh_ HB)) : w.heap.size ≤ gb263)); have n3_ := n2_; clear HB; have HB := n0_; have BK263 := n1_; have GW263 := n2_; have GE263 := n3_; clear n0_ n1_ n2_ n3_; clear hb hbox hg))
  go_ret
  exact ⟨by first | rfl | (simp [errW_none, errW_some] <;> rfl) | (simp [*, errW_none, errW_some] <;> rfl), by repeat (first | (with_reducible first | exact HB.out | apply below_alloc | apply pw_below_drewN | apply below_drew1 | refine below_set ?_ GE263.out) | exact HB.out)⟩
 ·rw [if_neg c5] at H
  have c5b0 : decide (1048576 < (l3.length : Int)) = false := decide_eq_false c5
  have c5b1 : decide (1048576 < l3.length) = false := decide_eq_false (by omega)
  clear c5
  replace H := Option.bind_eq_some_iff.mp H
  obtain ⟨t264, A70, H⟩ := H
  replace H : (if t264 < 0 then (some true) else ((laws_szActS.f k l1 t264).bind fun t265 => (if t265 < 0 then (some true) else ((laws_toDisk.f k l0_0).bind fun t266 => ((laws_toActS.f k l1).bind fun t269 => ((laws_toIntS.f k l3).bind fun t272 => ((spec_CutActs.f k t266 t269 a2 t272).bind fun bt275 => ((laws_toDisk.f k l0_0).bind fun t280 => ((laws_toActS.f k l1).bind fun t284 => ((laws_toIntS.f k l3).bind fun t287 => ((impl_CutActs.f k t280 t284 a2 t287).bind fun bt290 => ((laws_eqDisk.f k bt290.1 bt275.1).bind fun t295 => (if t295 = true then (laws_FnExactCutActs.j0 k l1 a2 l3 bt275.2 t284 t287 bt290.2 (bt290.2 != bt275.2) l0_0 bt275.1 t280 bt290.1) else (laws_FnExactCutActs.j0 k l1 a2 l3 bt275.2 t284 t287 bt290.2 true l0_0 bt275.1 t280 bt290.1)))))))))))))) = some r := H
  have A7 := Aside0.mk A70
  clear A70
  by_cases c8 : t264 < 0
  ·rw [if_pos c8] at H
   have c8b0 : decide (t264 < 0) = true := decide_eq_true c8
   clear c8
   obtain rfl := Option.some.inj H
   go_enter Try.func9, Try.ntmps9
   go_wp2_with (first | ((with_reducible refine gate_dst (N := 4) rfl ?_); refine box_event ?hg (N := 4) ?hd (cs := #[.slice A0_0 l0_0.length c0_0]) (t := 24) ?hr ?_; (case hd => rfl); (case hg => rfl); (case hr => first | (go_simp; done) | (go_simp; rfl)); intro gb263 hg w9 hbox hb; have n0_ := Aside0.mk (below_step (hh_ HB) hb); have n1_ := Aside0.mk (hbox); have n2_ := Aside0.mk ((by rw [hg]; exact (below_size (hh_ HB)) : w.heap.size ≤ gb263)); have n3_ := n2_; clear HB; have HB := n0_; have BK263 := n1_; have GW263 := n2_; have GE263 := n3_; clear n0_ n1_ n2_ n3_; clear hb hbox hg; have hcz10_0 : w9.cell? ⟨gb263, 0, none⟩ = some (.slice A0_0 l0_0.length c0_0) := (blk_cell BK263.out 0).trans rfl; have hfz10_0 := blk_frozen BK263.out 0) | ((with_reducible refine gate_callee (f := 12) rfl ?_); refine goesL_ (some 27) rfl rfl Try.func12 (by kernel_rfl) rfl #[.agg #[.slice A0_0 l0_0.length c0_0], .int .i64 1048576] rfl (by (try simp only [List.map_toArray, List.map_cons, List.map_nil]); first | done | rfl | (simp only [List.length_drop, List.length_take]; rfl)) ?_; (with_reducible refine (laws_szDisk.calls k _ _ l0_0 1048576 t264 _ ?side1 ?side2 A7.out).mono ?_); (case side1 => repeat (first | exact (Kd.C_below HR0_0.out HB.out) | (with_reducible refine Kd.C_alloc ?_ _) | (with_reducible refine Kd.C_drewN ?_ _) | (with_reducible refine Kd.C_drew ?_))); (case side2 => exact HC0_0.out); rintro e w11 ⟨rfl, hb⟩; refine ⟨_, rfl, ?_⟩; have n0_ := Aside0.mk (blk_below (bb_ BK263) hb); have n1_ := Aside0.mk (below_step (hh_ HB) hb); clear BK263; clear HB; have BK263 := n0_; have HB := n1_; clear n0_ n1_; (try clear hb); (try clear hb2); (try clear hk); (try clear hi)))
   go_ret
   exact ⟨by first | rfl | (simp [errW_none, errW_some] <;> rfl) | (simp [*, errW_none, errW_some] <;> rfl), by repeat (first | (with_reducible first | exact HB.out | apply below_alloc | apply pw_below_drewN | apply below_drew1 | refine below_set ?_ GE263.out) | exact HB.out)⟩
  ·rw [if_neg c8] at H
   have c8b0 : decide (t264 < 0) = false := decide_eq_false c8
   clear c8
   replace H := Option.bind_eq_some_iff.mp H
   obtain ⟨t265, A120, H⟩ := H
   replace H : (if t265 < 0 then (some true) else ((laws_toDisk.f k l0_0).bind fun t266 => ((laws_toActS.f k l1).bind fun t269 => ((laws_toIntS.f k l3).bind fun t272 => ((spec_CutActs.f k t266 t269 a2 t272).bind fun bt275 => ((laws_toDisk.f k l0_0).bind fun t280 => ((laws_toActS.f k l1).bind fun t284 => ((laws_toIntS.f k l3).bind fun t287 => ((impl_CutActs.f k t280 t284 a2 t287).bind fun bt290 => ((laws_eqDisk.f k bt290.1 bt275.1).bind fun t295 => (if t295 = true then (laws_FnExactCutActs.j0 k l1 a2 l3 bt275.2 t284 t287 bt290.2 (bt290.2 != bt275.2) l0_0 bt275.1 t280 bt290.1) else (laws_FnExactCutActs.j0 k l1 a2 l3 bt275.2 t284 t287 bt290.2 true l0_0 bt275.1 t280 bt290.1)))))))))))) = some r := H
   have A12 := Aside0.mk A120
   clear A120
   by_cases c13 : t265 < 0
   ·rw [if_pos c13] at H
    have c13b0 : decide (t265 < 0) = true := decide_eq_true c13
    clear c13
    obtain rfl := Option.some.inj H
    go_enter Try.func9, Try.ntmps9
    go_wp2_with (first | ((with_reducible refine gate_dst (N := 4) rfl ?_); refine box_event ?hg (N := 4) ?hd (cs := #[.slice A0_0 l0_0.length c0_0]) (t := 24) ?hr ?_; (case hd => rfl); (case hg => rfl); (case hr => first | (go_simp; done) | (go_simp; rfl)); intro gb263 hg w14 hbox hb; have n0_ := Aside0.mk (below_step (hh_ HB) hb); have n1_ := Aside0.mk (hbox); have n2_ := Aside0.mk ((by rw [hg]; exact (below_size (hh_ HB)) : w.heap.size ≤ gb263)); have n3_ := n2_; clear HB; have HB := n0_; have BK263 := n1_; have GW263 := n2_; have GE263 := n3_; clear n0_ n1_ n2_ n3_; clear hb hbox hg; have hcz15_0 : w14.cell? ⟨gb263, 0, none⟩ = some (.slice A0_0 l0_0.length c0_0) := (blk_cell BK263.out 0).trans rfl; have hfz15_0 := blk_frozen BK263.out 0) | ((with_reducible refine gate_callee (f := 12) rfl ?_); refine goesL_ (some 27) rfl rfl Try.func12 (by kernel_rfl) rfl #[.agg #[.slice A0_0 l0_0.length c0_0], .int .i64 1048576] rfl (by (try simp only [List.map_toArray, List.map_cons, List.map_nil]); first | done | rfl | (simp only [List.length_drop, List.length_take]; rfl)) ?_; (with_reducible refine (laws_szDisk.calls k _ _ l0_0 1048576 t264 _ ?side1 ?side2 A7.out).mono ?_); (case side1 => repeat (first | exact (Kd.C_below HR0_0.out HB.out) | (with_reducible refine Kd.C_alloc ?_ _) | (with_reducible refine Kd.C_drewN ?_ _) | (with_reducible refine Kd.C_drew ?_))); (case side2 => exact HC0_0.out); rintro e w16 ⟨rfl, hb⟩; refine ⟨_, rfl, ?_⟩; have n0_ := Aside0.mk (blk_below (bb_ BK263) hb); have n1_ := Aside0.mk (below_step (hh_ HB) hb); clear BK263; clear HB; have BK263 := n0_; have HB := n1_; clear n0_ n1_; (try clear hb); (try clear hb2); (try clear hk); (try clear hi)) | ((with_reducible refine gate_callee (f := 27) rfl ?_); refine goesL_ (some 32) rfl rfl Try.func27 (by kernel_rfl) rfl #[.slice A1 l1.length c1, .int .i64 t264] rfl (by (try simp only [List.map_toArray, List.map_cons, List.map_nil]); first | done | rfl | (simp only [List.length_drop, List.length_take]; rfl)) ?_; (with_reducible refine (laws_szActS.calls k _ _ l1 t264 t265 _ ?side1 ?side2 A12.out).mono ?_); (case side1 => repeat (first | exact (Kd.C_below HR1.out HB.out) | (with_reducible refine Kd.C_alloc ?_ _) | (with_reducible refine Kd.C_drewN ?_ _) | (with_reducible refine Kd.C_drew ?_))); (case side2 => exact HC1.out); rintro e w17 ⟨rfl, hb⟩; refine ⟨_, rfl, ?_⟩; have n0_ := Aside0.mk (blk_below (bb_ BK263) hb); have n1_ := Aside0.mk (below_step (hh_ HB) hb); clear BK263; clear HB; have BK263 := n0_; have HB := n1_; clear n0_ n1_; (try clear hb); (try clear hb2); (try clear hk); (try clear hi)))
    go_ret
    exact ⟨by first | rfl | (simp [errW_none, errW_some] <;> rfl) | (simp [*, errW_none, errW_some] <;> rfl), by repeat (first | (with_reducible first | exact HB.out | apply below_alloc | apply pw_below_drewN | apply below_drew1 | refine below_set ?_ GE263.out) | exact HB.out)⟩
   ·rw [if_neg c13] at H
    have c13b0 : decide (t265 < 0) = false := decide_eq_false c13
    clear c13
    replace H := Option.bind_eq_some_iff.mp H
    obtain ⟨t266, A180, H⟩ := H
    replace H : ((laws_toActS.f k l1).bind fun t269 => ((laws_toIntS.f k l3).bind fun t272 => ((spec_CutActs.f k t266 t269 a2 t272).bind fun bt275 => ((laws_toDisk.f k l0_0).bind fun t280 => ((laws_toActS.f k l1).bind fun t284 => ((laws_toIntS.f k l3).bind fun t287 => ((impl_CutActs.f k t280 t284 a2 t287).bind fun bt290 => ((laws_eqDisk.f k bt290.1 bt275.1).bind fun t295 => (if t295 = true then (laws_FnExactCutActs.j0 k l1 a2 l3 bt275.2 t284 t287 bt290.2 (bt290.2 != bt275.2) l0_0 bt275.1 t280 bt290.1) else (laws_FnExactCutActs.j0 k l1 a2 l3 bt275.2 t284 t287 bt290.2 true l0_0 bt275.1 t280 bt290.1)))))))))) = some r := H
    have A18 := Aside0.mk A180
    clear A180
    replace H := Option.bind_eq_some_iff.mp H
    obtain ⟨t269, A190, H⟩ := H
    replace H : ((laws_toIntS.f k l3).bind fun t272 => ((spec_CutActs.f k t266 t269 a2 t272).bind fun bt275 => ((laws_toDisk.f k l0_0).bind fun t280 => ((laws_toActS.f k l1).bind fun t284 => ((laws_toIntS.f k l3).bind fun t287 => ((impl_CutActs.f k t280 t284 a2 t287).bind fun bt290 => ((laws_eqDisk.f k bt290.1 bt275.1).bind fun t295 => (if t295 = true then (laws_FnExactCutActs.j0 k l1 a2 l3 bt275.2 t284 t287 bt290.2 (bt290.2 != bt275.2) l0_0 bt275.1 t280 bt290.1) else (laws_FnExactCutActs.j0 k l1 a2 l3 bt275.2 t284 t287 bt290.2 true l0_0 bt275.1 t280 bt290.1))))))))) = some r := H
    have A19 := Aside0.mk A190
    clear A190
    replace H := Option.bind_eq_some_iff.mp H
    obtain ⟨t272, A200, H⟩ := H
    replace H : ((spec_CutActs.f k t266 t269 a2 t272).bind fun bt275 => ((laws_toDisk.f k l0_0).bind fun t280 => ((laws_toActS.f k l1).bind fun t284 => ((laws_toIntS.f k l3).bind fun t287 => ((impl_CutActs.f k t280 t284 a2 t287).bind fun bt290 => ((laws_eqDisk.f k bt290.1 bt275.1).bind fun t295 => (if t295 = true then (laws_FnExactCutActs.j0 k l1 a2 l3 bt275.2 t284 t287 bt290.2 (bt290.2 != bt275.2) l0_0 bt275.1 t280 bt290.1) else (laws_FnExactCutActs.j0 k l1 a2 l3 bt275.2 t284 t287 bt290.2 true l0_0 bt275.1 t280 bt290.1)))))))) = some r := H
    have A20 := Aside0.mk A200
    clear A200
    replace H := Option.bind_eq_some_iff.mp H
    obtain ⟨⟨t275, t278⟩, A210, H⟩ := H
    replace H : ((laws_toDisk.f k l0_0).bind fun t280 => ((laws_toActS.f k l1).bind fun t284 => ((laws_toIntS.f k l3).bind fun t287 => ((impl_CutActs.f k t280 t284 a2 t287).bind fun bt290 => ((laws_eqDisk.f k bt290.1 t275).bind fun t295 => (if t295 = true then (laws_FnExactCutActs.j0 k l1 a2 l3 t278 t284 t287 bt290.2 (bt290.2 != t278) l0_0 t275 t280 bt290.1) else (laws_FnExactCutActs.j0 k l1 a2 l3 t278 t284 t287 bt290.2 true l0_0 t275 t280 bt290.1))))))) = some r := H
    have A21 := Aside0.mk A210
    clear A210
    replace H := Option.bind_eq_some_iff.mp H
    obtain ⟨t280, A220, H⟩ := H
    replace H : ((laws_toActS.f k l1).bind fun t284 => ((laws_toIntS.f k l3).bind fun t287 => ((impl_CutActs.f k t280 t284 a2 t287).bind fun bt290 => ((laws_eqDisk.f k bt290.1 t275).bind fun t295 => (if t295 = true then (laws_FnExactCutActs.j0 k l1 a2 l3 t278 t284 t287 bt290.2 (bt290.2 != t278) l0_0 t275 t280 bt290.1) else (laws_FnExactCutActs.j0 k l1 a2 l3 t278 t284 t287 bt290.2 true l0_0 t275 t280 bt290.1)))))) = some r := H
    have A22 := Aside0.mk A220
    clear A220
    replace H := Option.bind_eq_some_iff.mp H
    obtain ⟨t284, A230, H⟩ := H
    replace H : ((laws_toIntS.f k l3).bind fun t287 => ((impl_CutActs.f k t280 t284 a2 t287).bind fun bt290 => ((laws_eqDisk.f k bt290.1 t275).bind fun t295 => (if t295 = true then (laws_FnExactCutActs.j0 k l1 a2 l3 t278 t284 t287 bt290.2 (bt290.2 != t278) l0_0 t275 t280 bt290.1) else (laws_FnExactCutActs.j0 k l1 a2 l3 t278 t284 t287 bt290.2 true l0_0 t275 t280 bt290.1))))) = some r := H
    have A23 := Aside0.mk A230
    clear A230
    replace H := Option.bind_eq_some_iff.mp H
    obtain ⟨t287, A240, H⟩ := H
    replace H : ((impl_CutActs.f k t280 t284 a2 t287).bind fun bt290 => ((laws_eqDisk.f k bt290.1 t275).bind fun t295 => (if t295 = true then (laws_FnExactCutActs.j0 k l1 a2 l3 t278 t284 t287 bt290.2 (bt290.2 != t278) l0_0 t275 t280 bt290.1) else (laws_FnExactCutActs.j0 k l1 a2 l3 t278 t284 t287 bt290.2 true l0_0 t275 t280 bt290.1)))) = some r := H
    have A24 := Aside0.mk A240
    clear A240
    replace H := Option.bind_eq_some_iff.mp H
    obtain ⟨⟨t290, t293⟩, A250, H⟩ := H
    replace H : ((laws_eqDisk.f k t290 t275).bind fun t295 => (if t295 = true then (laws_FnExactCutActs.j0 k l1 a2 l3 t278 t284 t287 t293 (t293 != t278) l0_0 t275 t280 t290) else (laws_FnExactCutActs.j0 k l1 a2 l3 t278 t284 t287 t293 true l0_0 t275 t280 t290))) = some r := H
    have A25 := Aside0.mk A250
    clear A250
    have HC26 := Aside0.mk H
    clear H
    go_enter Try.func9, Try.ntmps9
    go_upto_region 15 with (first | ((with_reducible refine gate_dst (N := 4) rfl ?_); refine box_event ?hg (N := 4) ?hd (cs := #[.slice A0_0 l0_0.length c0_0]) (t := 24) ?hr ?_; (case hd => rfl); (case hg => rfl); (case hr => first | (go_simp; done) | (go_simp; rfl)); intro gb263 hg w27 hbox hb; have n0_ := Aside0.mk (below_step (hh_ HB) hb); have n1_ := Aside0.mk (hbox); have n2_ := Aside0.mk ((by rw [hg]; exact (below_size (hh_ HB)) : w.heap.size ≤ gb263)); have n3_ := n2_; clear HB; have HB := n0_; have BK263 := n1_; have GW263 := n2_; have GE263 := n3_; clear n0_ n1_ n2_ n3_; clear hb hbox hg; have hcz28_0 : w27.cell? ⟨gb263, 0, none⟩ = some (.slice A0_0 l0_0.length c0_0) := (blk_cell BK263.out 0).trans rfl; have hfz28_0 := blk_frozen BK263.out 0) | ((with_reducible refine gate_callee (f := 12) rfl ?_); refine goesL_ (some 27) rfl rfl Try.func12 (by kernel_rfl) rfl #[.agg #[.slice A0_0 l0_0.length c0_0], .int .i64 1048576] rfl (by (try simp only [List.map_toArray, List.map_cons, List.map_nil]); first | done | rfl | (simp only [List.length_drop, List.length_take]; rfl)) ?_; (with_reducible refine (laws_szDisk.calls k _ _ l0_0 1048576 t264 _ ?side1 ?side2 A7.out).mono ?_); (case side1 => repeat (first | exact (Kd.C_below HR0_0.out HB.out) | (with_reducible refine Kd.C_alloc ?_ _) | (with_reducible refine Kd.C_drewN ?_ _) | (with_reducible refine Kd.C_drew ?_))); (case side2 => exact HC0_0.out); rintro e w29 ⟨rfl, hb⟩; refine ⟨_, rfl, ?_⟩; have n0_ := Aside0.mk (blk_below (bb_ BK263) hb); have n1_ := Aside0.mk (below_step (hh_ HB) hb); clear BK263; clear HB; have BK263 := n0_; have HB := n1_; clear n0_ n1_; (try clear hb); (try clear hb2); (try clear hk); (try clear hi)) | ((with_reducible refine gate_callee (f := 27) rfl ?_); refine goesL_ (some 32) rfl rfl Try.func27 (by kernel_rfl) rfl #[.slice A1 l1.length c1, .int .i64 t264] rfl (by (try simp only [List.map_toArray, List.map_cons, List.map_nil]); first | done | rfl | (simp only [List.length_drop, List.length_take]; rfl)) ?_; (with_reducible refine (laws_szActS.calls k _ _ l1 t264 t265 _ ?side1 ?side2 A12.out).mono ?_); (case side1 => repeat (first | exact (Kd.C_below HR1.out HB.out) | (with_reducible refine Kd.C_alloc ?_ _) | (with_reducible refine Kd.C_drewN ?_ _) | (with_reducible refine Kd.C_drew ?_))); (case side2 => exact HC1.out); rintro e w30 ⟨rfl, hb⟩; refine ⟨_, rfl, ?_⟩; have n0_ := Aside0.mk (blk_below (bb_ BK263) hb); have n1_ := Aside0.mk (below_step (hh_ HB) hb); clear BK263; clear HB; have BK263 := n0_; have HB := n1_; clear n0_ n1_; (try clear hb); (try clear hb2); (try clear hk); (try clear hi); have hcz31_0 : w30.cell? ⟨gb263, 0, none⟩ = some (.slice A0_0 l0_0.length c0_0) := (blk_cell BK263.out 0).trans rfl; have hfz31_0 := blk_frozen BK263.out 0) | ((with_reducible refine gate_callee (f := 14) rfl ?_); refine goesL_ (some 37) rfl rfl Try.func14 (by kernel_rfl) rfl #[.agg #[.slice A0_0 l0_0.length c0_0]] rfl (by (try simp only [List.map_toArray, List.map_cons, List.map_nil]); first | done | rfl | (simp only [List.length_drop, List.length_take]; rfl)) ?_; (with_reducible refine (laws_toDisk.calls k _ _ l0_0 t266 _ ?side1 ?side2 A18.out).mono ?_); (case side1 => repeat (first | exact (Kd.C_below HR0_0.out HB.out) | (with_reducible refine Kd.C_alloc ?_ _) | (with_reducible refine Kd.C_drewN ?_ _) | (with_reducible refine Kd.C_drew ?_))); (case side2 => exact HC0_0.out); rintro e w32 ⟨v267, rfl, ho0, hb⟩; refine ⟨_, rfl, ?_⟩; have n0_ := Aside0.mk (Kd.R_lower ho0 (below_size (hh_ HB))); have n1_ := Aside0.mk (blk_below (bb_ BK263) hb); have n2_ := Aside0.mk (below_step (hh_ HB) hb); clear BK263; clear HB; have HO268 := n0_; have BK263 := n1_; have HB := n2_; clear n0_ n1_ n2_; (try clear hb); (try clear hb2); (try clear hk); (try clear hi); (try clear ho0)) | ((with_reducible refine gate_callee (f := 29) rfl ?_); refine goesL_ (some 39) rfl rfl Try.func29 (by kernel_rfl) rfl #[.slice A1 l1.length c1] rfl (by (try simp only [List.map_toArray, List.map_cons, List.map_nil]); first | done | rfl | (simp only [List.length_drop, List.length_take]; rfl)) ?_; (with_reducible refine (laws_toActS.calls k _ _ l1 t269 _ ?side1 ?side2 A19.out).mono ?_); (case side1 => repeat (first | exact (Kd.C_below HR1.out HB.out) | (with_reducible refine Kd.C_alloc ?_ _) | (with_reducible refine Kd.C_drewN ?_ _) | (with_reducible refine Kd.C_drew ?_))); (case side2 => exact HC1.out); rintro e w33 ⟨v270, rfl, ho0, hb⟩; refine ⟨_, rfl, ?_⟩; have n0_ := Aside0.mk (Kd.R_below (rr_ HO268) hb); have n1_ := Aside0.mk (Kd.R_lower ho0 (below_size (hh_ HB))); have n2_ := Aside0.mk (blk_below (bb_ BK263) hb); have n3_ := Aside0.mk (below_step (hh_ HB) hb); clear HO268; clear BK263; clear HB; have HO268 := n0_; have HO271 := n1_; have BK263 := n2_; have HB := n3_; clear n0_ n1_ n2_ n3_; (try clear hb); (try clear hb2); (try clear hk); (try clear hi); (try clear ho0)) | ((with_reducible refine gate_callee (f := 34) rfl ?_); refine goesL_ (some 42) rfl rfl Try.func34 (by kernel_rfl) rfl #[.slice A3 l3.length c3] rfl (by (try simp only [List.map_toArray, List.map_cons, List.map_nil]); first | done | rfl | (simp only [List.length_drop, List.length_take]; rfl)) ?_; (with_reducible refine (laws_toIntS.calls k _ _ l3 t272 _ ?side1 ?side2 A20.out).mono ?_); (case side1 => repeat (first | exact (Kd.C_below HR3.out HB.out) | (with_reducible refine Kd.C_alloc ?_ _) | (with_reducible refine Kd.C_drewN ?_ _) | (with_reducible refine Kd.C_drew ?_))); (case side2 => exact HC3.out); rintro e w34 ⟨v273, rfl, ho0, hb⟩; refine ⟨_, rfl, ?_⟩; have n0_ := Aside0.mk (Kd.R_below (rr_ HO268) hb); have n1_ := Aside0.mk (Kd.R_below (rr_ HO271) hb); have n2_ := Aside0.mk (Kd.R_lower ho0 (below_size (hh_ HB))); have n3_ := Aside0.mk (blk_below (bb_ BK263) hb); have n4_ := Aside0.mk (below_step (hh_ HB) hb); clear HO268; clear HO271; clear BK263; clear HB; have HO268 := n0_; have HO271 := n1_; have HO274 := n2_; have BK263 := n3_; have HB := n4_; clear n0_ n1_ n2_ n3_ n4_; (try clear hb); (try clear hb2); (try clear hk); (try clear hi); (try clear ho0); obtain ⟨Ao35, co35, eo35⟩ := Kd.R_slice HO268.out; subst eo35; obtain ⟨Ao36, co36, eo36⟩ := Kd.R_slice HO271.out; subst eo36; obtain ⟨Ao37, co37, eo37⟩ := Kd.R_slice HO274.out; subst eo37) | ((with_reducible refine gate_callee (f := 38) rfl ?_); refine goesL_ (some 43) rfl rfl Try.func38 (by kernel_rfl) rfl #[.agg #[.slice Ao35 t266.length co35], .slice Ao36 t269.length co36, .int .i64 a2, .slice Ao37 t272.length co37] rfl (by (try simp only [List.map_toArray, List.map_cons, List.map_nil]); first | done | rfl | (simp only [List.length_drop, List.length_take]; rfl)) ?_; (with_reducible refine (spec_CutActs.calls k _ _ t266 _ _ t269 a2 _ _ t272 t275 t278 _ ?side1 ?side2 ?side3 ?side4 ?side5 ?side6 A21.out).mono ?_); (case side1 => repeat (first | exact (Kd.R_reads' HO268.out).2.2 | (with_reducible refine Kd.C_alloc ?_ _) | (with_reducible refine Kd.C_drewN ?_ _) | (with_reducible refine Kd.C_drew ?_))); (case side2 => exact (Kd.R_reads' HO268.out).2.1); (case side3 => repeat (first | exact (Kd.R_reads' HO271.out).2.2 | (with_reducible refine Kd.C_alloc ?_ _) | (with_reducible refine Kd.C_drewN ?_ _) | (with_reducible refine Kd.C_drew ?_))); (case side4 => exact (Kd.R_reads' HO271.out).2.1); (case side5 => repeat (first | exact (Kd.R_reads' HO274.out).2.2 | (with_reducible refine Kd.C_alloc ?_ _) | (with_reducible refine Kd.C_drewN ?_ _) | (with_reducible refine Kd.C_drew ?_))); (case side6 => exact (Kd.R_reads' HO274.out).2.1); rintro e w38 ⟨v276, rfl, ho0, hb⟩; refine ⟨_, rfl, ?_⟩; have n0_ := Aside0.mk (Kd.R_elder' (rr_ HO268) (Kd.R_base ho0) hb); have n1_ := Aside0.mk (Kd.R_below (rr_ HO271) hb); have n2_ := Aside0.mk (Kd.R_below (rr_ HO274) hb); have n3_ := Aside0.mk (Kd.R_lower (Kd.R_new' ho0 (Kd.R_lt (rr_ HO268))) (below_size (hh_ HB))); have n4_ := Aside0.mk (blk_below (bb_ BK263) hb); have n5_ := Aside0.mk (below_step (hh_ HB) hb); clear HO268; clear HO271; clear HO274; clear BK263; clear HB; have HO268 := n0_; have HO271 := n1_; have HO274 := n2_; have HO277 := n3_; have BK263 := n4_; have HB := n5_; clear n0_ n1_ n2_ n3_ n4_ n5_; (try clear hb); (try clear hb2); (try clear hk); (try clear hi); (try clear ho0)) | ((with_reducible refine gate_dst (N := 10) rfl ?_); refine box_event ?hg (N := 10) ?hd (cs := #[.slice none 0 0]) (t := 29) ?hr ?_; (case hd => rfl); (case hg => rfl); (case hr => first | (go_simp; done) | (go_simp; rfl)); intro gb279 hg w39 hbox hb; have n0_ := Aside0.mk (Kd.R_below (rr_ HO268) hb); have n1_ := Aside0.mk (Kd.R_below (rr_ HO271) hb); have n2_ := Aside0.mk (Kd.R_below (rr_ HO274) hb); have n3_ := Aside0.mk (Kd.R_below (rr_ HO277) hb); have n4_ := Aside0.mk (blk_below (bb_ BK263) hb); have n5_ := Aside0.mk (below_step (hh_ HB) hb); have n6_ := Aside0.mk (hbox); have n7_ := Aside0.mk ((by rw [hg]; exact (below_size (hh_ HB)) : w.heap.size ≤ gb279)); have n8_ := n7_; have n9_ := Aside0.mk ((by rw [hg]; exact Nat.ne_of_lt (blk_lt (bb_ BK263)) : gb263 ≠ gb279)); have n10_ := Aside0.mk ((by rw [hg]; exact Nat.ne_of_gt (blk_lt (bb_ BK263)) : gb279 ≠ gb263)); clear HO268; clear HO271; clear HO274; clear HO277; clear BK263; clear HB; have HO268 := n0_; have HO271 := n1_; have HO274 := n2_; have HO277 := n3_; have BK263 := n4_; have HB := n5_; have BK279 := n6_; have GW279 := n7_; have GE279 := n8_; have NB263_279 := n9_; have NB279_263 := n10_; clear n0_ n1_ n2_ n3_ n4_ n5_ n6_ n7_ n8_ n9_ n10_; clear hb hbox hg; obtain ⟨Ao40, co40, eo40⟩ := Kd.R_slice HO277.out; subst eo40; have hnb41 := NB279_263.out; have hnc41 := NB263_279.out; have hcz42_0 : w39.cell? ⟨gb279, 0, none⟩ = some (.slice none 0 0) := (blk_cell BK279.out 0).trans rfl; have hfz42_0 := blk_frozen BK279.out 0; have hcz43_0 : w39.cell? ⟨gb263, 0, none⟩ = some (.slice A0_0 l0_0.length c0_0) := (blk_cell BK263.out 0).trans rfl; have hfz43_0 := blk_frozen BK263.out 0) | ((with_reducible refine gate_callee (f := 14) rfl ?_); refine goesL_ (some 47) rfl rfl Try.func14 (by kernel_rfl) rfl #[.agg #[.slice A0_0 l0_0.length c0_0]] rfl (by (try simp only [List.map_toArray, List.map_cons, List.map_nil]); first | done | rfl | (simp only [List.length_drop, List.length_take]; rfl)) ?_; (with_reducible refine (laws_toDisk.calls k _ _ l0_0 t280 _ ?side1 ?side2 A22.out).mono ?_); (case side1 => exact Kd.C_below HR0_0.out (hh_ HB)); (case side2 => exact HC0_0.out); rintro e w44 ⟨v281, rfl, ho0, hb⟩; refine ⟨_, rfl, ?_⟩; have n0_ := Aside0.mk (Kd.R_elder' (by (with_reducible repeat (first | apply Kd.R_alloc | apply Kd.R_drewN | apply Kd.R_drew)); exact (Kd.R_mono (Kd.R_far (p := ⟨gb279, 0, none⟩) (Kd.R_types HO268.out BK279.out (by decide)) (fun _ hk => hk.2) (.slice Ao40 t275.length co40)) (fun _ h_ => h_.1))) (Kd.R_base ho0) hb); have n1_ := Aside0.mk (Kd.R_below (by (with_reducible repeat (first | apply Kd.R_alloc | apply Kd.R_drewN | apply Kd.R_drew)); exact (Kd.R_mono (Kd.R_far (p := ⟨gb279, 0, none⟩) (Kd.R_types HO271.out BK279.out (by decide)) (fun _ hk => hk.2) (.slice Ao40 t275.length co40)) (fun _ h_ => h_.1))) hb); have n2_ := Aside0.mk (Kd.R_below (by (with_reducible repeat (first | apply Kd.R_alloc | apply Kd.R_drewN | apply Kd.R_drew)); exact (Kd.R_mono (Kd.R_far (p := ⟨gb279, 0, none⟩) (Kd.R_types HO274.out BK279.out (by decide)) (fun _ hk => hk.2) (.slice Ao40 t275.length co40)) (fun _ h_ => h_.1))) hb); have n3_ := Aside0.mk (Kd.R_elder' (by (with_reducible repeat (first | apply Kd.R_alloc | apply Kd.R_drewN | apply Kd.R_drew)); exact (Kd.R_mono (Kd.R_far (p := ⟨gb279, 0, none⟩) (Kd.R_types HO277.out BK279.out (by decide)) (fun _ hk => hk.2) (.slice Ao40 t275.length co40)) (fun _ h_ => h_.1))) (Kd.R_base ho0) hb); have n4_ := Aside0.mk (Kd.R_lower (Kd.R_new' (Kd.R_new' ho0 (Kd.R_lt (by (with_reducible repeat (first | apply Kd.R_alloc | apply Kd.R_drewN | apply Kd.R_drew)); exact (Kd.R_mono (Kd.R_far (p := ⟨gb279, 0, none⟩) (Kd.R_types HO268.out BK279.out (by decide)) (fun _ hk => hk.2) (.slice Ao40 t275.length co40)) (fun _ h_ => h_.1))))) (Kd.R_lt (by (with_reducible repeat (first | apply Kd.R_alloc | apply Kd.R_drewN | apply Kd.R_drew)); exact (Kd.R_mono (Kd.R_far (p := ⟨gb279, 0, none⟩) (Kd.R_types HO277.out BK279.out (by decide)) (fun _ hk => hk.2) (.slice Ao40 t275.length co40)) (fun _ h_ => h_.1))))) (below_size (hh_ HB))); have n5_ := Aside0.mk (blk_below (g := gb263) (o := .cells #[.slice A0_0 l0_0.length c0_0] 24 (0, 0)) (by (with_reducible repeat (first | refine blk_drewN ?_ _ | refine blk_drew ?_ | refine blk_alloc ?_ _)); refine blk_far ?_ NB263_279.out _; exact bb_ BK263) hb); have n6_ := Aside0.mk (blk_below (g := gb279) (o := .cells #[.slice Ao40 t275.length co40] 29 (0, 0)) (by (with_reducible repeat (first | refine blk_drewN ?_ _ | refine blk_drew ?_ | refine blk_alloc ?_ _)); refine blk_put (cs := #[.slice none 0 0]) ?_ 0 _ rfl; exact bb_ BK279) hb); have n7_ := Aside0.mk (below_step (hh_ HB) hb); clear HO268; clear HO271; clear HO274; clear HO277; clear BK263; clear BK279; clear HB; have HO268 := n0_; have HO271 := n1_; have HO274 := n2_; have HO277 := n3_; have HO282 := n4_; have BK263 := n5_; have BK279 := n6_; have HB := n7_; clear n0_ n1_ n2_ n3_ n4_ n5_ n6_ n7_; (try clear hb); (try clear hb2); (try clear hk); (try clear hi); (try clear ho0)) | ((with_reducible refine gate_dst (N := 12) rfl ?_); refine box_event ?hg (N := 12) ?hd (cs := #[.slice none 0 0]) (t := 29) ?hr ?_; (case hd => rfl); (case hg => rfl); (case hr => first | (go_simp; done) | (go_simp; rfl)); intro gb283 hg w45 hbox hb; have n0_ := Aside0.mk (Kd.R_below (rr_ HO268) hb); have n1_ := Aside0.mk (Kd.R_below (rr_ HO271) hb); have n2_ := Aside0.mk (Kd.R_below (rr_ HO274) hb); have n3_ := Aside0.mk (Kd.R_below (rr_ HO277) hb); have n4_ := Aside0.mk (Kd.R_below (rr_ HO282) hb); have n5_ := Aside0.mk (blk_below (bb_ BK263) hb); have n6_ := Aside0.mk (blk_below (bb_ BK279) hb); have n7_ := Aside0.mk (below_step (hh_ HB) hb); have n8_ := Aside0.mk (hbox); have n9_ := Aside0.mk ((by rw [hg]; exact (below_size (hh_ HB)) : w.heap.size ≤ gb283)); have n10_ := n9_; have n11_ := Aside0.mk ((by rw [hg]; exact Nat.ne_of_lt (blk_lt (bb_ BK263)) : gb263 ≠ gb283)); have n12_ := Aside0.mk ((by rw [hg]; exact Nat.ne_of_gt (blk_lt (bb_ BK263)) : gb283 ≠ gb263)); have n13_ := Aside0.mk ((by rw [hg]; exact Nat.ne_of_lt (blk_lt (bb_ BK279)) : gb279 ≠ gb283)); have n14_ := Aside0.mk ((by rw [hg]; exact Nat.ne_of_gt (blk_lt (bb_ BK279)) : gb283 ≠ gb279)); clear HO268; clear HO271; clear HO274; clear HO277; clear HO282; clear BK263; clear BK279; clear HB; have HO268 := n0_; have HO271 := n1_; have HO274 := n2_; have HO277 := n3_; have HO282 := n4_; have BK263 := n5_; have BK279 := n6_; have HB := n7_; have BK283 := n8_; have GW283 := n9_; have GE283 := n10_; have NB263_283 := n11_; have NB283_263 := n12_; have NB279_283 := n13_; have NB283_279 := n14_; clear n0_ n1_ n2_ n3_ n4_ n5_ n6_ n7_ n8_ n9_ n10_ n11_ n12_ n13_ n14_; clear hb hbox hg; obtain ⟨Ao46, co46, eo46⟩ := Kd.R_slice HO282.out; subst eo46; have hnb47 := NB283_263.out; have hnc47 := NB263_283.out; have hnb48 := NB283_279.out; have hnc48 := NB279_283.out; have hcz49_0 : w45.cell? ⟨gb283, 0, none⟩ = some (.slice none 0 0) := (blk_cell BK283.out 0).trans rfl; have hfz49_0 := blk_frozen BK283.out 0) | ((with_reducible refine gate_callee (f := 29) rfl ?_); refine goesL_ (some 49) rfl rfl Try.func29 (by kernel_rfl) rfl #[.slice A1 l1.length c1] rfl (by (try simp only [List.map_toArray, List.map_cons, List.map_nil]); first | done | rfl | (simp only [List.length_drop, List.length_take]; rfl)) ?_; (with_reducible refine (laws_toActS.calls k _ _ l1 t284 _ ?side1 ?side2 A23.out).mono ?_); (case side1 => exact Kd.C_below HR1.out (hh_ HB)); (case side2 => exact HC1.out); rintro e w50 ⟨v285, rfl, ho0, hb⟩; refine ⟨_, rfl, ?_⟩; have n0_ := Aside0.mk (Kd.R_below (by (with_reducible repeat (first | apply Kd.R_alloc | apply Kd.R_drewN | apply Kd.R_drew)); exact (Kd.R_mono (Kd.R_far (p := ⟨gb283, 0, none⟩) (Kd.R_types HO268.out BK283.out (by decide)) (fun _ hk => hk.2) (.slice Ao46 t280.length co46)) (fun _ h_ => h_.1))) hb); have n1_ := Aside0.mk (Kd.R_elder' (by (with_reducible repeat (first | apply Kd.R_alloc | apply Kd.R_drewN | apply Kd.R_drew)); exact (Kd.R_mono (Kd.R_far (p := ⟨gb283, 0, none⟩) (Kd.R_types HO271.out BK283.out (by decide)) (fun _ hk => hk.2) (.slice Ao46 t280.length co46)) (fun _ h_ => h_.1))) (Kd.R_base ho0) hb); have n2_ := Aside0.mk (Kd.R_below (by (with_reducible repeat (first | apply Kd.R_alloc | apply Kd.R_drewN | apply Kd.R_drew)); exact (Kd.R_mono (Kd.R_far (p := ⟨gb283, 0, none⟩) (Kd.R_types HO274.out BK283.out (by decide)) (fun _ hk => hk.2) (.slice Ao46 t280.length co46)) (fun _ h_ => h_.1))) hb); have n3_ := Aside0.mk (Kd.R_below (by (with_reducible repeat (first | apply Kd.R_alloc | apply Kd.R_drewN | apply Kd.R_drew)); exact (Kd.R_mono (Kd.R_far (p := ⟨gb283, 0, none⟩) (Kd.R_types HO277.out BK283.out (by decide)) (fun _ hk => hk.2) (.slice Ao46 t280.length co46)) (fun _ h_ => h_.1))) hb); have n4_ := Aside0.mk (Kd.R_below (by (with_reducible repeat (first | apply Kd.R_alloc | apply Kd.R_drewN | apply Kd.R_drew)); exact (Kd.R_mono (Kd.R_far (p := ⟨gb283, 0, none⟩) (Kd.R_types HO282.out BK283.out (by decide)) (fun _ hk => hk.2) (.slice Ao46 t280.length co46)) (fun _ h_ => h_.1))) hb); have n5_ := Aside0.mk (Kd.R_lower (Kd.R_new' ho0 (Kd.R_lt (by (with_reducible repeat (first | apply Kd.R_alloc | apply Kd.R_drewN | apply Kd.R_drew)); exact (Kd.R_mono (Kd.R_far (p := ⟨gb283, 0, none⟩) (Kd.R_types HO271.out BK283.out (by decide)) (fun _ hk => hk.2) (.slice Ao46 t280.length co46)) (fun _ h_ => h_.1))))) (below_size (hh_ HB))); have n6_ := Aside0.mk (blk_below (g := gb263) (o := .cells #[.slice A0_0 l0_0.length c0_0] 24 (0, 0)) (by (with_reducible repeat (first | refine blk_drewN ?_ _ | refine blk_drew ?_ | refine blk_alloc ?_ _)); refine blk_far ?_ NB263_283.out _; exact bb_ BK263) hb); have n7_ := Aside0.mk (blk_below (g := gb279) (o := .cells #[.slice Ao40 t275.length co40] 29 (0, 0)) (by (with_reducible repeat (first | refine blk_drewN ?_ _ | refine blk_drew ?_ | refine blk_alloc ?_ _)); refine blk_far ?_ NB279_283.out _; exact bb_ BK279) hb); have n8_ := Aside0.mk (blk_below (g := gb283) (o := .cells #[.slice Ao46 t280.length co46] 29 (0, 0)) (by (with_reducible repeat (first | refine blk_drewN ?_ _ | refine blk_drew ?_ | refine blk_alloc ?_ _)); refine blk_put (cs := #[.slice none 0 0]) ?_ 0 _ rfl; exact bb_ BK283) hb); have n9_ := Aside0.mk (below_step (hh_ HB) hb); clear HO268; clear HO271; clear HO274; clear HO277; clear HO282; clear BK263; clear BK279; clear BK283; clear HB; have HO268 := n0_; have HO271 := n1_; have HO274 := n2_; have HO277 := n3_; have HO282 := n4_; have HO286 := n5_; have BK263 := n6_; have BK279 := n7_; have BK283 := n8_; have HB := n9_; clear n0_ n1_ n2_ n3_ n4_ n5_ n6_ n7_ n8_ n9_; (try clear hb); (try clear hb2); (try clear hk); (try clear hi); (try clear ho0)) | ((with_reducible refine gate_callee (f := 34) rfl ?_); refine goesL_ (some 51) rfl rfl Try.func34 (by kernel_rfl) rfl #[.slice A3 l3.length c3] rfl (by (try simp only [List.map_toArray, List.map_cons, List.map_nil]); first | done | rfl | (simp only [List.length_drop, List.length_take]; rfl)) ?_; (with_reducible refine (laws_toIntS.calls k _ _ l3 t287 _ ?side1 ?side2 A24.out).mono ?_); (case side1 => repeat (first | exact (Kd.C_below HR3.out HB.out) | (with_reducible refine Kd.C_alloc ?_ _) | (with_reducible refine Kd.C_drewN ?_ _) | (with_reducible refine Kd.C_drew ?_))); (case side2 => exact HC3.out); rintro e w51 ⟨v288, rfl, ho0, hb⟩; refine ⟨_, rfl, ?_⟩; have n0_ := Aside0.mk (Kd.R_below (rr_ HO268) hb); have n1_ := Aside0.mk (Kd.R_below (rr_ HO271) hb); have n2_ := Aside0.mk (Kd.R_elder' (rr_ HO274) (Kd.R_base ho0) hb); have n3_ := Aside0.mk (Kd.R_below (rr_ HO277) hb); have n4_ := Aside0.mk (Kd.R_below (rr_ HO282) hb); have n5_ := Aside0.mk (Kd.R_below (rr_ HO286) hb); have n6_ := Aside0.mk (Kd.R_lower (Kd.R_new' ho0 (Kd.R_lt (rr_ HO274))) (below_size (hh_ HB))); have n7_ := Aside0.mk (blk_below (bb_ BK263) hb); have n8_ := Aside0.mk (blk_below (bb_ BK279) hb); have n9_ := Aside0.mk (blk_below (bb_ BK283) hb); have n10_ := Aside0.mk (below_step (hh_ HB) hb); clear HO268; clear HO271; clear HO274; clear HO277; clear HO282; clear HO286; clear BK263; clear BK279; clear BK283; clear HB; have HO268 := n0_; have HO271 := n1_; have HO274 := n2_; have HO277 := n3_; have HO282 := n4_; have HO286 := n5_; have HO289 := n6_; have BK263 := n7_; have BK279 := n8_; have BK283 := n9_; have HB := n10_; clear n0_ n1_ n2_ n3_ n4_ n5_ n6_ n7_ n8_ n9_ n10_; (try clear hb); (try clear hb2); (try clear hk); (try clear hi); (try clear ho0); have hcz52_0 : w51.cell? ⟨gb283, 0, none⟩ = some (.slice Ao46 t280.length co46) := (blk_cell BK283.out 0).trans rfl; have hfz52_0 := blk_frozen BK283.out 0; obtain ⟨Ao53, co53, eo53⟩ := Kd.R_slice HO286.out; subst eo53; obtain ⟨Ao54, co54, eo54⟩ := Kd.R_slice HO289.out; subst eo54) | ((with_reducible refine gate_callee (f := 39) rfl ?_); refine goesL_ (some 57) rfl rfl Try.func39 (by kernel_rfl) rfl #[.agg #[.slice Ao46 t280.length co46], .slice Ao53 t284.length co53, .int .i64 a2, .slice Ao54 t287.length co54] rfl (by (try simp only [List.map_toArray, List.map_cons, List.map_nil]); first | done | rfl | (simp only [List.length_drop, List.length_take]; rfl)) ?_; (with_reducible refine (impl_CutActs.calls k _ _ t280 _ _ t284 a2 _ _ t287 t290 t293 _ ?side1 ?side2 ?side3 ?side4 ?side5 ?side6 A25.out).mono ?_); (case side1 => repeat (first | exact (Kd.R_reads' HO282.out).2.2 | (with_reducible refine Kd.C_alloc ?_ _) | (with_reducible refine Kd.C_drewN ?_ _) | (with_reducible refine Kd.C_drew ?_))); (case side2 => exact (Kd.R_reads' HO282.out).2.1); (case side3 => repeat (first | exact (Kd.R_reads' HO286.out).2.2 | (with_reducible refine Kd.C_alloc ?_ _) | (with_reducible refine Kd.C_drewN ?_ _) | (with_reducible refine Kd.C_drew ?_))); (case side4 => exact (Kd.R_reads' HO286.out).2.1); (case side5 => repeat (first | exact (Kd.R_reads' HO289.out).2.2 | (with_reducible refine Kd.C_alloc ?_ _) | (with_reducible refine Kd.C_drewN ?_ _) | (with_reducible refine Kd.C_drew ?_))); (case side6 => exact (Kd.R_reads' HO289.out).2.1); rintro e w55 ⟨v291, rfl, ho0, hb⟩; refine ⟨_, rfl, ?_⟩; have n0_ := Aside0.mk (Kd.R_elder' (rr_ HO268) (Kd.R_base ho0) hb); have n1_ := Aside0.mk (Kd.R_below (rr_ HO271) hb); have n2_ := Aside0.mk (Kd.R_below (rr_ HO274) hb); have n3_ := Aside0.mk (Kd.R_elder' (rr_ HO277) (Kd.R_base ho0) hb); have n4_ := Aside0.mk (Kd.R_elder' (rr_ HO282) (Kd.R_base ho0) hb); have n5_ := Aside0.mk (Kd.R_below (rr_ HO286) hb); have n6_ := Aside0.mk (Kd.R_below (rr_ HO289) hb); have n7_ := Aside0.mk (Kd.R_lower (Kd.R_new' (Kd.R_new' (Kd.R_new' ho0 (Kd.R_lt (rr_ HO268))) (Kd.R_lt (rr_ HO277))) (Kd.R_lt (rr_ HO282))) (below_size (hh_ HB))); have n8_ := Aside0.mk (blk_below (bb_ BK263) hb); have n9_ := Aside0.mk (blk_below (bb_ BK279) hb); have n10_ := Aside0.mk (blk_below (bb_ BK283) hb); have n11_ := Aside0.mk (below_step (hh_ HB) hb); clear HO268; clear HO271; clear HO274; clear HO277; clear HO282; clear HO286; clear HO289; clear BK263; clear BK279; clear BK283; clear HB; have HO268 := n0_; have HO271 := n1_; have HO274 := n2_; have HO277 := n3_; have HO282 := n4_; have HO286 := n5_; have HO289 := n6_; have HO292 := n7_; have BK263 := n8_; have BK279 := n9_; have BK283 := n10_; have HB := n11_; clear n0_ n1_ n2_ n3_ n4_ n5_ n6_ n7_ n8_ n9_ n10_ n11_; (try clear hb); (try clear hb2); (try clear hk); (try clear hi); (try clear ho0)) | ((with_reducible refine gate_dst (N := 15) rfl ?_); refine box_event ?hg (N := 15) ?hd (cs := #[.slice none 0 0]) (t := 29) ?hr ?_; (case hd => rfl); (case hg => rfl); (case hr => first | (go_simp; done) | (go_simp; rfl)); intro gb294 hg w56 hbox hb; have n0_ := Aside0.mk (Kd.R_below (rr_ HO268) hb); have n1_ := Aside0.mk (Kd.R_below (rr_ HO271) hb); have n2_ := Aside0.mk (Kd.R_below (rr_ HO274) hb); have n3_ := Aside0.mk (Kd.R_below (rr_ HO277) hb); have n4_ := Aside0.mk (Kd.R_below (rr_ HO282) hb); have n5_ := Aside0.mk (Kd.R_below (rr_ HO286) hb); have n6_ := Aside0.mk (Kd.R_below (rr_ HO289) hb); have n7_ := Aside0.mk (Kd.R_below (rr_ HO292) hb); have n8_ := Aside0.mk (blk_below (bb_ BK263) hb); have n9_ := Aside0.mk (blk_below (bb_ BK279) hb); have n10_ := Aside0.mk (blk_below (bb_ BK283) hb); have n11_ := Aside0.mk (below_step (hh_ HB) hb); have n12_ := Aside0.mk (hbox); have n13_ := Aside0.mk ((by rw [hg]; exact (below_size (hh_ HB)) : w.heap.size ≤ gb294)); have n14_ := n13_; have n15_ := Aside0.mk ((by rw [hg]; exact Nat.ne_of_lt (blk_lt (bb_ BK263)) : gb263 ≠ gb294)); have n16_ := Aside0.mk ((by rw [hg]; exact Nat.ne_of_gt (blk_lt (bb_ BK263)) : gb294 ≠ gb263)); have n17_ := Aside0.mk ((by rw [hg]; exact Nat.ne_of_lt (blk_lt (bb_ BK279)) : gb279 ≠ gb294)); have n18_ := Aside0.mk ((by rw [hg]; exact Nat.ne_of_gt (blk_lt (bb_ BK279)) : gb294 ≠ gb279)); have n19_ := Aside0.mk ((by rw [hg]; exact Nat.ne_of_lt (blk_lt (bb_ BK283)) : gb283 ≠ gb294)); have n20_ := Aside0.mk ((by rw [hg]; exact Nat.ne_of_gt (blk_lt (bb_ BK283)) : gb294 ≠ gb283)); clear HO268; clear HO271; clear HO274; clear HO277; clear HO282; clear HO286; clear HO289; clear HO292; clear BK263; clear BK279; clear BK283; clear HB; have HO268 := n0_; have HO271 := n1_; have HO274 := n2_; have HO277 := n3_; have HO282 := n4_; have HO286 := n5_; have HO289 := n6_; have HO292 := n7_; have BK263 := n8_; have BK279 := n9_; have BK283 := n10_; have HB := n11_; have BK294 := n12_; have GW294 := n13_; have GE294 := n14_; have NB263_294 := n15_; have NB294_263 := n16_; have NB279_294 := n17_; have NB294_279 := n18_; have NB283_294 := n19_; have NB294_283 := n20_; clear n0_ n1_ n2_ n3_ n4_ n5_ n6_ n7_ n8_ n9_ n10_ n11_ n12_ n13_ n14_ n15_ n16_ n17_ n18_ n19_ n20_; clear hb hbox hg; obtain ⟨Ao57, co57, eo57⟩ := Kd.R_slice HO292.out; subst eo57; have hnb58 := NB294_263.out; have hnc58 := NB263_294.out; have hnb59 := NB294_279.out; have hnc59 := NB279_294.out; have hnb60 := NB294_283.out; have hnc60 := NB283_294.out; have hcz61_0 : w56.cell? ⟨gb294, 0, none⟩ = some (.slice none 0 0) := (blk_cell BK294.out 0).trans rfl; have hfz61_0 := blk_frozen BK294.out 0))
    (try simp only [Act.put, List.setIfInBounds_toArray, List.set_cons_zero, List.set_cons_succ])
    go_cut [68] (fun v68 wc => ∃ (kq : Nat) (x68_25 : Bool), v68 = .bool x68_25 ∧ Aside0 (laws_FnExactCutActs.j0 kq l1 a2 l3 t278 t284 t287 t293 x68_25 l0_0 t275 t280 t290 = some r) ∧ Aside0 (kq ≤ k) ∧ Aside0 (Kd.R k41 41 wc w.heap.size (fun _ => True) (.slice Ao53 t284.length co53) t284) ∧ Aside0 (Kd.R (Kd.int .i64) 3 wc w.heap.size (fun _ => True) (.slice Ao54 t287.length co54) t287) ∧ Aside0 (Kd.R k67 67 wc w.heap.size (fun k_ => some k_ ≠ ((.slice Ao46 t280.length co46) : Value).ownBlock ∧ some k_ ≠ ((.slice Ao57 t290.length co57) : Value).ownBlock) (.slice Ao40 t275.length co40) t275) ∧ Aside0 (Kd.R k67 67 wc w.heap.size (fun k_ => some k_ ≠ ((.slice Ao40 t275.length co40) : Value).ownBlock ∧ some k_ ≠ ((.slice Ao57 t290.length co57) : Value).ownBlock) (.slice Ao46 t280.length co46) t280) ∧ Aside0 (Kd.R k67 67 wc w.heap.size (fun k_ => some k_ ≠ ((.slice Ao40 t275.length co40) : Value).ownBlock ∧ some k_ ≠ ((.slice Ao46 t280.length co46) : Value).ownBlock) (.slice Ao57 t290.length co57) t290) ∧ Aside0 (wc.heap[gb263]? = some (.cells #[(.slice A0_0 l0_0.length c0_0)] 24 (0, 0))) ∧ Aside0 (wc.heap[gb279]? = some (.cells #[(.slice Ao40 t275.length co40)] 29 (0, 0))) ∧ Aside0 (wc.heap[gb283]? = some (.cells #[(.slice Ao46 t280.length co46)] 29 (0, 0))) ∧ Aside0 (wc.heap[gb294]? = some (.cells #[(.slice Ao57 t290.length co57)] 29 (0, 0))) ∧ Aside0 (Below w.heap.size w wc))
    case first =>
     have H := HC26.out
     clear HC26
     replace H := Option.bind_eq_some_iff.mp H
     obtain ⟨t295, A620, H⟩ := H
     replace H : (if t295 = true then (laws_FnExactCutActs.j0 k l1 a2 l3 t278 t284 t287 t293 (t293 != t278) l0_0 t275 t280 t290) else (laws_FnExactCutActs.j0 k l1 a2 l3 t278 t284 t287 t293 true l0_0 t275 t280 t290)) = some r := H
     have A62 := Aside0.mk A620
     clear A620
     by_cases c63 : t295 = true
     ·subst c63
      have H1 : (laws_FnExactCutActs.j0 k l1 a2 l3 t278 t284 t287 t293 (t293 != t278) l0_0 t275 t280 t290) = some r := by rw [if_pos rfl] at H; exact H
      clear H
      have H := H1
      clear H1
      have H' := Aside0.mk H
      clear H
      have hnb64 := NB294_263.out; have hnc64 := NB263_294.out; have hnb65 := NB294_279.out; have hnc65 := NB279_294.out; have hnb66 := NB294_283.out; have hnc66 := NB283_294.out
      have hcz67_0 : w56.cell? ⟨gb294, 0, none⟩ = some (.slice none 0 0) := (blk_cell BK294.out 0).trans rfl
      have hfz67_0 := blk_frozen BK294.out 0
      have hnb68 := NB279_263.out; have hnc68 := NB263_279.out; have hnb69 := NB279_283.out; have hnc69 := NB283_279.out
      have hcz70_0 : w56.cell? ⟨gb279, 0, none⟩ = some (.slice Ao40 t275.length co40) := (blk_cell BK279.out 0).trans rfl
      have hfz70_0 := blk_frozen BK279.out 0
      go_wp2_with (first | ((with_reducible refine gate_callee (f := 16) rfl ?_); refine goesL_ (some 62) rfl rfl Try.func16 (by kernel_rfl) rfl #[.agg #[.slice Ao57 t290.length co57], .agg #[.slice Ao40 t275.length co40]] rfl (by (try simp only [List.map_toArray, List.map_cons, List.map_nil]); first | done | rfl | (simp only [List.length_drop, List.length_take]; rfl)) ?_; (with_reducible refine (laws_eqDisk.calls k _ _ t290 _ _ t275 true _ ?side1 ?side2 ?side3 ?side4 A62.out).mono ?_); (case side1 => refine (Kd.R_reads' (e := 67) (base := w.heap.size) (ok := fun k_ => (((True ∧ some k_ ≠ (.slice Ao35 t266.length co35 : Value).ownBlock) ∧ some k_ ≠ (.slice Ao40 t275.length co40 : Value).ownBlock) ∧ some k_ ≠ (.slice Ao46 t280.length co46 : Value).ownBlock)) (n := t290.length) (c := co57) ?_).2.2; exact (by (with_reducible repeat (first | apply Kd.R_alloc | apply Kd.R_drewN | apply Kd.R_drew)); exact (Kd.R_mono (Kd.R_far (p := ⟨gb294, 0, none⟩) (Kd.R_types HO292.out BK294.out (by decide)) (fun _ hk => hk.2) (.slice Ao57 t290.length co57)) (fun _ h_ => h_.1)))); (case side2 => exact (Kd.R_reads' HO292.out).2.1); (case side3 => refine (Kd.R_reads' (e := 67) (base := w.heap.size) (ok := fun k_ => (((True ∧ some k_ ≠ (.slice Ao35 t266.length co35 : Value).ownBlock) ∧ some k_ ≠ (.slice Ao46 t280.length co46 : Value).ownBlock) ∧ some k_ ≠ (.slice Ao57 t290.length co57 : Value).ownBlock)) (n := t275.length) (c := co40) ?_).2.2; exact (by (with_reducible repeat (first | apply Kd.R_alloc | apply Kd.R_drewN | apply Kd.R_drew)); exact (Kd.R_mono (Kd.R_far (p := ⟨gb294, 0, none⟩) (Kd.R_types HO277.out BK294.out (by decide)) (fun _ hk => hk.2) (.slice Ao57 t290.length co57)) (fun _ h_ => h_.1)))); (case side4 => exact (Kd.R_reads' HO277.out).2.1); rintro e w71 ⟨rfl, hb⟩; refine ⟨_, rfl, ?_⟩; have n0_ := Aside0.mk (Kd.R_below (by (with_reducible repeat (first | apply Kd.R_alloc | apply Kd.R_drewN | apply Kd.R_drew)); exact (Kd.R_mono (Kd.R_far (p := ⟨gb294, 0, none⟩) (Kd.R_types HO268.out BK294.out (by decide)) (fun _ hk => hk.2) (.slice Ao57 t290.length co57)) (fun _ h_ => h_.1))) hb); have n1_ := Aside0.mk (Kd.R_below (by (with_reducible repeat (first | apply Kd.R_alloc | apply Kd.R_drewN | apply Kd.R_drew)); exact (Kd.R_mono (Kd.R_far (p := ⟨gb294, 0, none⟩) (Kd.R_types HO271.out BK294.out (by decide)) (fun _ hk => hk.2) (.slice Ao57 t290.length co57)) (fun _ h_ => h_.1))) hb); have n2_ := Aside0.mk (Kd.R_below (by (with_reducible repeat (first | apply Kd.R_alloc | apply Kd.R_drewN | apply Kd.R_drew)); exact (Kd.R_mono (Kd.R_far (p := ⟨gb294, 0, none⟩) (Kd.R_types HO274.out BK294.out (by decide)) (fun _ hk => hk.2) (.slice Ao57 t290.length co57)) (fun _ h_ => h_.1))) hb); have n3_ := Aside0.mk (Kd.R_below (by (with_reducible repeat (first | apply Kd.R_alloc | apply Kd.R_drewN | apply Kd.R_drew)); exact (Kd.R_mono (Kd.R_far (p := ⟨gb294, 0, none⟩) (Kd.R_types HO277.out BK294.out (by decide)) (fun _ hk => hk.2) (.slice Ao57 t290.length co57)) (fun _ h_ => h_.1))) hb); have n4_ := Aside0.mk (Kd.R_below (by (with_reducible repeat (first | apply Kd.R_alloc | apply Kd.R_drewN | apply Kd.R_drew)); exact (Kd.R_mono (Kd.R_far (p := ⟨gb294, 0, none⟩) (Kd.R_types HO282.out BK294.out (by decide)) (fun _ hk => hk.2) (.slice Ao57 t290.length co57)) (fun _ h_ => h_.1))) hb); have n5_ := Aside0.mk (Kd.R_below (by (with_reducible repeat (first | apply Kd.R_alloc | apply Kd.R_drewN | apply Kd.R_drew)); exact (Kd.R_mono (Kd.R_far (p := ⟨gb294, 0, none⟩) (Kd.R_types HO286.out BK294.out (by decide)) (fun _ hk => hk.2) (.slice Ao57 t290.length co57)) (fun _ h_ => h_.1))) hb); have n6_ := Aside0.mk (Kd.R_below (by (with_reducible repeat (first | apply Kd.R_alloc | apply Kd.R_drewN | apply Kd.R_drew)); exact (Kd.R_mono (Kd.R_far (p := ⟨gb294, 0, none⟩) (Kd.R_types HO289.out BK294.out (by decide)) (fun _ hk => hk.2) (.slice Ao57 t290.length co57)) (fun _ h_ => h_.1))) hb); have n7_ := Aside0.mk (Kd.R_below (by (with_reducible repeat (first | apply Kd.R_alloc | apply Kd.R_drewN | apply Kd.R_drew)); exact (Kd.R_mono (Kd.R_far (p := ⟨gb294, 0, none⟩) (Kd.R_types HO292.out BK294.out (by decide)) (fun _ hk => hk.2) (.slice Ao57 t290.length co57)) (fun _ h_ => h_.1))) hb); have n8_ := Aside0.mk (blk_below (g := gb263) (o := .cells #[.slice A0_0 l0_0.length c0_0] 24 (0, 0)) (by (with_reducible repeat (first | refine blk_drewN ?_ _ | refine blk_drew ?_ | refine blk_alloc ?_ _)); refine blk_far ?_ NB263_294.out _; exact bb_ BK263) hb); have n9_ := Aside0.mk (blk_below (g := gb279) (o := .cells #[.slice Ao40 t275.length co40] 29 (0, 0)) (by (with_reducible repeat (first | refine blk_drewN ?_ _ | refine blk_drew ?_ | refine blk_alloc ?_ _)); refine blk_far ?_ NB279_294.out _; exact bb_ BK279) hb); have n10_ := Aside0.mk (blk_below (g := gb283) (o := .cells #[.slice Ao46 t280.length co46] 29 (0, 0)) (by (with_reducible repeat (first | refine blk_drewN ?_ _ | refine blk_drew ?_ | refine blk_alloc ?_ _)); refine blk_far ?_ NB283_294.out _; exact bb_ BK283) hb); have n11_ := Aside0.mk (blk_below (g := gb294) (o := .cells #[.slice Ao57 t290.length co57] 29 (0, 0)) (by (with_reducible repeat (first | refine blk_drewN ?_ _ | refine blk_drew ?_ | refine blk_alloc ?_ _)); refine blk_put (cs := #[.slice none 0 0]) ?_ 0 _ rfl; exact bb_ BK294) hb); have n12_ := Aside0.mk (below_step (hh_ HB) hb); clear HO268; clear HO271; clear HO274; clear HO277; clear HO282; clear HO286; clear HO289; clear HO292; clear BK263; clear BK279; clear BK283; clear BK294; clear HB; have HO268 := n0_; have HO271 := n1_; have HO274 := n2_; have HO277 := n3_; have HO282 := n4_; have HO286 := n5_; have HO289 := n6_; have HO292 := n7_; have BK263 := n8_; have BK279 := n9_; have BK283 := n10_; have BK294 := n11_; have HB := n12_; clear n0_ n1_ n2_ n3_ n4_ n5_ n6_ n7_ n8_ n9_ n10_ n11_ n12_; (try clear hb); (try clear hb2); (try clear hk); (try clear hi)))
      go_meet
      case rel => exact ⟨_, ((t293 != t278)), (by first | rfl | (simp; done) | (simp [*]; done)), H', ⟨by first | omega | exact Nat.le_refl _⟩, ⟨by (with_reducible repeat (first | apply Kd.R_alloc | apply Kd.R_drewN | apply Kd.R_drew)); exact Kd.R_mono HO286.out (fun _ hk => trivial)⟩, ⟨by (with_reducible repeat (first | apply Kd.R_alloc | apply Kd.R_drewN | apply Kd.R_drew)); exact Kd.R_mono HO289.out (fun _ hk => trivial)⟩, ⟨by (with_reducible repeat (first | apply Kd.R_alloc | apply Kd.R_drewN | apply Kd.R_drew)); exact Kd.R_mono HO277.out (fun _ hk => ⟨hk.1.2, hk.2⟩)⟩, ⟨by (with_reducible repeat (first | apply Kd.R_alloc | apply Kd.R_drewN | apply Kd.R_drew)); exact Kd.R_mono HO282.out (fun _ hk => ⟨hk.1.2, hk.2⟩)⟩, ⟨by (with_reducible repeat (first | apply Kd.R_alloc | apply Kd.R_drewN | apply Kd.R_drew)); exact Kd.R_mono HO292.out (fun _ hk => ⟨hk.1.2, hk.2⟩)⟩, ⟨bb_ BK263⟩, ⟨bb_ BK279⟩, ⟨bb_ BK283⟩, ⟨bb_ BK294⟩, ⟨hh_ HB⟩⟩
     ·replace c63 := Bool.eq_false_iff.mpr c63
      subst c63
      have H1 : (laws_FnExactCutActs.j0 k l1 a2 l3 t278 t284 t287 t293 true l0_0 t275 t280 t290) = some r := by rw [if_neg (show ¬ (false = true) by decide)] at H; exact H
      clear H
      have H := H1
      clear H1
      exact absurd H (by rw [hr_.out]; cases k <;> simp [laws_FnExactCutActs.j0])
    case rest =>
     clear HC26
     try clear c1
     try clear c2
     try clear p2
     try clear c3
     try clear c4
     try clear c5
     try clear c5b0
     try clear c5b1
     try clear c6
     try clear c7
     try clear c8
     try clear c8b0
     try clear c9
     try clear c12
     try clear c13
     try clear c13b0
     try clear c14
     try clear c16
     try clear c27
     try clear c29
     try clear c34
     try clear c38
     try clear c39
     try clear c41
     try clear c47
     try clear c48
     try clear c58
     try clear c59
     try clear c60
     try clear c63
     try clear c64
     try clear c65
     try clear c66
     try clear c68
     try clear c69
     try clear c72
     try clear c73
     try clear c74
     try clear c76
     try clear c77
     try clear hcz10_0
     try clear hcz15_0
     try clear hcz28_0
     try clear hcz31_0
     try clear hcz42_0
     try clear hcz43_0
     try clear hcz49_0
     try clear hcz52_0
     try clear hcz61_0
     try clear hcz67_0
     try clear hcz70_0
     try clear hcz75_0
     try clear hcz78_0
     try clear hfz10_0
     try clear hfz15_0
     try clear hfz28_0
     try clear hfz31_0
     try clear hfz42_0
     try clear hfz43_0
     try clear hfz49_0
     try clear hfz52_0
     try clear hfz61_0
     try clear hfz67_0
     try clear hfz70_0
     try clear hfz75_0
     try clear hfz78_0
     obtain ⟨kq, x68_25, rfl, HA, HJ25, HO_13, HO_14, HO_280000, HO_284000, HO_295000, BK263, BK279, BK283, BK294, HB⟩ := hcut
     cases kq with
     | zero => exact absurd HA.out (by simp [laws_FnExactCutActs.j0])
     | succ kj25 =>
      have H := HA.out
      clear HA
      simp only [laws_FnExactCutActs.j0] at H
      by_cases c80 : x68_25 = true
      ·subst c80
       have H1 : (some false) = some r := by rw [if_pos rfl] at H; exact H
       clear H
       have H := H1
       clear H1
       obtain rfl := Option.some.inj H
       exact absurd hr_.out (by decide)
      ·replace c80 := Bool.eq_false_iff.mpr c80
       subst c80
       have H1 : ((laws_toDisk.f kj25 l0_0).bind fun t296 => ((laws_eqDisk.f kj25 t280 t296).bind fun t299 => (if t299 = true then ((laws_toActS.f kj25 l1).bind fun t300 => ((laws_eqActS.f kj25 t284 t300).bind fun t303 => (if t303 = true then ((laws_toIntS.f kj25 l3).bind fun t304 => ((laws_eqIntS.f kj25 t287 t304).bind fun t307 => (if t307 = true then ((laws_markDisk.f kj25 t280 1).bind fun bt308 => ((laws_markActS.f kj25 t284 bt308.1).bind fun bt310 => ((laws_markIntS.f kj25 t287 bt310.1).bind fun bt312 => (if bt312.1 < 0 then (laws_FnExactCutActs.j1 kj25 l1 a2 l3 t278 true l0_0 t275 t290) else ((laws_eqDisk.f kj25 t290 t275).bind fun t314 => (if t314 = true then (laws_FnExactCutActs.j1 kj25 l1 a2 l3 t278 (t293 != t278) l0_0 t275 t290) else (laws_FnExactCutActs.j1 kj25 l1 a2 l3 t278 true l0_0 t275 t290))))))) else (some false)))) else (some false)))) else (some false)))) = some r := by rw [if_neg (show ¬ (false = true) by decide)] at H; exact H
       clear H
       have H := H1
       clear H1
       replace H := Option.bind_eq_some_iff.mp H
       obtain ⟨t296, A810, H⟩ := H
       replace H : ((laws_eqDisk.f kj25 t280 t296).bind fun t299 => (if t299 = true then ((laws_toActS.f kj25 l1).bind fun t300 => ((laws_eqActS.f kj25 t284 t300).bind fun t303 => (if t303 = true then ((laws_toIntS.f kj25 l3).bind fun t304 => ((laws_eqIntS.f kj25 t287 t304).bind fun t307 => (if t307 = true then ((laws_markDisk.f kj25 t280 1).bind fun bt308 => ((laws_markActS.f kj25 t284 bt308.1).bind fun bt310 => ((laws_markIntS.f kj25 t287 bt310.1).bind fun bt312 => (if bt312.1 < 0 then (laws_FnExactCutActs.j1 kj25 l1 a2 l3 t278 true l0_0 t275 t290) else ((laws_eqDisk.f kj25 t290 t275).bind fun t314 => (if t314 = true then (laws_FnExactCutActs.j1 kj25 l1 a2 l3 t278 (t293 != t278) l0_0 t275 t290) else (laws_FnExactCutActs.j1 kj25 l1 a2 l3 t278 true l0_0 t275 t290))))))) else (some false)))) else (some false)))) else (some false))) = some r := H
       have A81 := Aside0.mk A810
       clear A810
       replace H := Option.bind_eq_some_iff.mp H
       obtain ⟨t299, A820, H⟩ := H
       replace H : (if t299 = true then ((laws_toActS.f kj25 l1).bind fun t300 => ((laws_eqActS.f kj25 t284 t300).bind fun t303 => (if t303 = true then ((laws_toIntS.f kj25 l3).bind fun t304 => ((laws_eqIntS.f kj25 t287 t304).bind fun t307 => (if t307 = true then ((laws_markDisk.f kj25 t280 1).bind fun bt308 => ((laws_markActS.f kj25 t284 bt308.1).bind fun bt310 => ((laws_markIntS.f kj25 t287 bt310.1).bind fun bt312 => (if bt312.1 < 0 then (laws_FnExactCutActs.j1 kj25 l1 a2 l3 t278 true l0_0 t275 t290) else ((laws_eqDisk.f kj25 t290 t275).bind fun t314 => (if t314 = true then (laws_FnExactCutActs.j1 kj25 l1 a2 l3 t278 (t293 != t278) l0_0 t275 t290) else (laws_FnExactCutActs.j1 kj25 l1 a2 l3 t278 true l0_0 t275 t290))))))) else (some false)))) else (some false)))) else (some false)) = some r := H
       have A82 := Aside0.mk A820
       clear A820
       by_cases c83 : t299 = true
       ·subst c83
        have H1 : ((laws_toActS.f kj25 l1).bind fun t300 => ((laws_eqActS.f kj25 t284 t300).bind fun t303 => (if t303 = true then ((laws_toIntS.f kj25 l3).bind fun t304 => ((laws_eqIntS.f kj25 t287 t304).bind fun t307 => (if t307 = true then ((laws_markDisk.f kj25 t280 1).bind fun bt308 => ((laws_markActS.f kj25 t284 bt308.1).bind fun bt310 => ((laws_markIntS.f kj25 t287 bt310.1).bind fun bt312 => (if bt312.1 < 0 then (laws_FnExactCutActs.j1 kj25 l1 a2 l3 t278 true l0_0 t275 t290) else ((laws_eqDisk.f kj25 t290 t275).bind fun t314 => (if t314 = true then (laws_FnExactCutActs.j1 kj25 l1 a2 l3 t278 (t293 != t278) l0_0 t275 t290) else (laws_FnExactCutActs.j1 kj25 l1 a2 l3 t278 true l0_0 t275 t290))))))) else (some false)))) else (some false)))) = some r := by rw [if_pos rfl] at H; exact H
        clear H
        have H := H1
        clear H1
        replace H := Option.bind_eq_some_iff.mp H
        obtain ⟨t300, A840, H⟩ := H
        replace H : ((laws_eqActS.f kj25 t284 t300).bind fun t303 => (if t303 = true then ((laws_toIntS.f kj25 l3).bind fun t304 => ((laws_eqIntS.f kj25 t287 t304).bind fun t307 => (if t307 = true then ((laws_markDisk.f kj25 t280 1).bind fun bt308 => ((laws_markActS.f kj25 t284 bt308.1).bind fun bt310 => ((laws_markIntS.f kj25 t287 bt310.1).bind fun bt312 => (if bt312.1 < 0 then (laws_FnExactCutActs.j1 kj25 l1 a2 l3 t278 true l0_0 t275 t290) else ((laws_eqDisk.f kj25 t290 t275).bind fun t314 => (if t314 = true then (laws_FnExactCutActs.j1 kj25 l1 a2 l3 t278 (t293 != t278) l0_0 t275 t290) else (laws_FnExactCutActs.j1 kj25 l1 a2 l3 t278 true l0_0 t275 t290))))))) else (some false)))) else (some false))) = some r := H
        have A84 := Aside0.mk A840
        clear A840
        replace H := Option.bind_eq_some_iff.mp H
        obtain ⟨t303, A850, H⟩ := H
        replace H : (if t303 = true then ((laws_toIntS.f kj25 l3).bind fun t304 => ((laws_eqIntS.f kj25 t287 t304).bind fun t307 => (if t307 = true then ((laws_markDisk.f kj25 t280 1).bind fun bt308 => ((laws_markActS.f kj25 t284 bt308.1).bind fun bt310 => ((laws_markIntS.f kj25 t287 bt310.1).bind fun bt312 => (if bt312.1 < 0 then (laws_FnExactCutActs.j1 kj25 l1 a2 l3 t278 true l0_0 t275 t290) else ((laws_eqDisk.f kj25 t290 t275).bind fun t314 => (if t314 = true then (laws_FnExactCutActs.j1 kj25 l1 a2 l3 t278 (t293 != t278) l0_0 t275 t290) else (laws_FnExactCutActs.j1 kj25 l1 a2 l3 t278 true l0_0 t275 t290))))))) else (some false)))) else (some false)) = some r := H
        have A85 := Aside0.mk A850
        clear A850
        by_cases c86 : t303 = true
        ·subst c86
         have H1 : ((laws_toIntS.f kj25 l3).bind fun t304 => ((laws_eqIntS.f kj25 t287 t304).bind fun t307 => (if t307 = true then ((laws_markDisk.f kj25 t280 1).bind fun bt308 => ((laws_markActS.f kj25 t284 bt308.1).bind fun bt310 => ((laws_markIntS.f kj25 t287 bt310.1).bind fun bt312 => (if bt312.1 < 0 then (laws_FnExactCutActs.j1 kj25 l1 a2 l3 t278 true l0_0 t275 t290) else ((laws_eqDisk.f kj25 t290 t275).bind fun t314 => (if t314 = true then (laws_FnExactCutActs.j1 kj25 l1 a2 l3 t278 (t293 != t278) l0_0 t275 t290) else (laws_FnExactCutActs.j1 kj25 l1 a2 l3 t278 true l0_0 t275 t290))))))) else (some false)))) = some r := by rw [if_pos rfl] at H; exact H
         clear H
         have H := H1
         clear H1
         replace H := Option.bind_eq_some_iff.mp H
         obtain ⟨t304, A870, H⟩ := H
         replace H : ((laws_eqIntS.f kj25 t287 t304).bind fun t307 => (if t307 = true then ((laws_markDisk.f kj25 t280 1).bind fun bt308 => ((laws_markActS.f kj25 t284 bt308.1).bind fun bt310 => ((laws_markIntS.f kj25 t287 bt310.1).bind fun bt312 => (if bt312.1 < 0 then (laws_FnExactCutActs.j1 kj25 l1 a2 l3 t278 true l0_0 t275 t290) else ((laws_eqDisk.f kj25 t290 t275).bind fun t314 => (if t314 = true then (laws_FnExactCutActs.j1 kj25 l1 a2 l3 t278 (t293 != t278) l0_0 t275 t290) else (laws_FnExactCutActs.j1 kj25 l1 a2 l3 t278 true l0_0 t275 t290))))))) else (some false))) = some r := H
         have A87 := Aside0.mk A870
         clear A870
         replace H := Option.bind_eq_some_iff.mp H
         obtain ⟨t307, A880, H⟩ := H
         replace H : (if t307 = true then ((laws_markDisk.f kj25 t280 1).bind fun bt308 => ((laws_markActS.f kj25 t284 bt308.1).bind fun bt310 => ((laws_markIntS.f kj25 t287 bt310.1).bind fun bt312 => (if bt312.1 < 0 then (laws_FnExactCutActs.j1 kj25 l1 a2 l3 t278 true l0_0 t275 t290) else ((laws_eqDisk.f kj25 t290 t275).bind fun t314 => (if t314 = true then (laws_FnExactCutActs.j1 kj25 l1 a2 l3 t278 (t293 != t278) l0_0 t275 t290) else (laws_FnExactCutActs.j1 kj25 l1 a2 l3 t278 true l0_0 t275 t290))))))) else (some false)) = some r := H
         have A88 := Aside0.mk A880
         clear A880
         by_cases c89 : t307 = true
         ·subst c89
          have H1 : ((laws_markDisk.f kj25 t280 1).bind fun bt308 => ((laws_markActS.f kj25 t284 bt308.1).bind fun bt310 => ((laws_markIntS.f kj25 t287 bt310.1).bind fun bt312 => (if bt312.1 < 0 then (laws_FnExactCutActs.j1 kj25 l1 a2 l3 t278 true l0_0 t275 t290) else ((laws_eqDisk.f kj25 t290 t275).bind fun t314 => (if t314 = true then (laws_FnExactCutActs.j1 kj25 l1 a2 l3 t278 (t293 != t278) l0_0 t275 t290) else (laws_FnExactCutActs.j1 kj25 l1 a2 l3 t278 true l0_0 t275 t290))))))) = some r := by rw [if_pos rfl] at H; exact H
          clear H
          have H := H1
          clear H1
          replace H := Option.bind_eq_some_iff.mp H
          obtain ⟨⟨t308, t309⟩, A900, H⟩ := H
          replace H : ((laws_markActS.f kj25 t284 t308).bind fun bt310 => ((laws_markIntS.f kj25 t287 bt310.1).bind fun bt312 => (if bt312.1 < 0 then (laws_FnExactCutActs.j1 kj25 l1 a2 l3 t278 true l0_0 t275 t290) else ((laws_eqDisk.f kj25 t290 t275).bind fun t314 => (if t314 = true then (laws_FnExactCutActs.j1 kj25 l1 a2 l3 t278 (t293 != t278) l0_0 t275 t290) else (laws_FnExactCutActs.j1 kj25 l1 a2 l3 t278 true l0_0 t275 t290)))))) = some r := H
          have A90 := Aside0.mk A900
          clear A900
          replace H := Option.bind_eq_some_iff.mp H
          obtain ⟨⟨t310, t311⟩, A910, H⟩ := H
          replace H : ((laws_markIntS.f kj25 t287 t310).bind fun bt312 => (if bt312.1 < 0 then (laws_FnExactCutActs.j1 kj25 l1 a2 l3 t278 true l0_0 t275 t290) else ((laws_eqDisk.f kj25 t290 t275).bind fun t314 => (if t314 = true then (laws_FnExactCutActs.j1 kj25 l1 a2 l3 t278 (t293 != t278) l0_0 t275 t290) else (laws_FnExactCutActs.j1 kj25 l1 a2 l3 t278 true l0_0 t275 t290))))) = some r := H
          have A91 := Aside0.mk A910
          clear A910
          replace H := Option.bind_eq_some_iff.mp H
          obtain ⟨⟨t312, t313⟩, A920, H⟩ := H
          replace H : (if t312 < 0 then (laws_FnExactCutActs.j1 kj25 l1 a2 l3 t278 true l0_0 t275 t290) else ((laws_eqDisk.f kj25 t290 t275).bind fun t314 => (if t314 = true then (laws_FnExactCutActs.j1 kj25 l1 a2 l3 t278 (t293 != t278) l0_0 t275 t290) else (laws_FnExactCutActs.j1 kj25 l1 a2 l3 t278 true l0_0 t275 t290)))) = some r := H
          have A92 := Aside0.mk A920
          clear A920
          have HC93 := Aside0.mk H
          clear H
          try go_wp2
          have n0_ := Aside0.mk (Kd.R_drew HO_13.out)
          have n1_ := Aside0.mk (Kd.R_drew HO_14.out)
          have n2_ := Aside0.mk (Kd.R_drew HO_280000.out)
          have n3_ := Aside0.mk (Kd.R_drew HO_284000.out)
          have n4_ := Aside0.mk (Kd.R_drew HO_295000.out)
          have n5_ := Aside0.mk (blk_drew BK263.out)
          have n6_ := Aside0.mk (blk_drew BK279.out)
          have n7_ := Aside0.mk (blk_drew BK283.out)
          have n8_ := Aside0.mk (blk_drew BK294.out)
          have n9_ := Aside0.mk (below_drew1 HB.out)
          clear HO_13 HO_14 HO_280000 HO_284000 HO_295000 BK263 BK279 BK283 BK294 HB
          have HO_13 := n0_; have HO_14 := n1_; have HO_280000 := n2_; have HO_284000 := n3_; have HO_295000 := n4_; have BK263 := n5_; have BK279 := n6_; have BK283 := n7_; have BK294 := n8_; have HB := n9_
          clear n0_ n1_ n2_ n3_ n4_ n5_ n6_ n7_ n8_ n9_
          refine start_ (n := 5) (S := fun w' => w'.cell? ⟨gb283, 0, none⟩ = some (.slice Ao46 t280.length co46) ∧ w'.cell? ⟨gb263, 0, none⟩ = some (.slice A0_0 l0_0.length c0_0)) (ds := []) #[false, false, false, false, false] (by kernel_rfl) rfl rfl ⟨(blk_cell BK283.out 0).trans rfl, (blk_cell BK263.out 0).trans rfl⟩ (fun hHeld => ?_)
          generalize wc.drew = w94 at HO_13 HO_14 HO_280000 HO_284000 HO_295000 BK263 BK279 BK283 BK294 HB hHeld ⊢
          refine take_ (i := 0) (N := some 69) (v := ?_) (a' := ?_) #[true, false, false, false, false] rfl rfl (by kernel_rfl) (fun _ _ _ h => h) (Or.inl ⟨by rfl, ?_⟩) hHeld ?_ ?_
          rotate_left
          ·rintro w' ⟨s0, s1⟩
           go_simp
           with_reducible rfl
          rotate_left
          ·simp only [Act.put, List.setIfInBounds_toArray, List.set_cons_zero, List.set_cons_succ, i64_w, i32_w]
           rfl
          refine take_ (i := 1) (N := some 70) (v := ?_) (a' := ?_) #[true, true, false, false, false] rfl rfl (by kernel_rfl) (fun _ _ _ h => h) (Or.inl ⟨by rfl, ?_⟩) hHeld ?_ ?_
          rotate_left
          ·rintro w' ⟨s0, s1⟩
           go_simp
           with_reducible rfl
          rotate_left
          ·simp only [Act.put, List.setIfInBounds_toArray, List.set_cons_zero, List.set_cons_succ, i64_w, i32_w]
           rfl
          refine one_ (i := 2) (N := some 71) #[true, true, true, false, false] rfl rfl (by kernel_rfl) (by decide) (fun K hK => ?_)
          refine goes_ Try.func14 (by kernel_rfl) rfl #[.agg #[.slice A0_0 l0_0.length c0_0]] (by rfl) rfl rfl (by (try simp only [List.map_toArray, List.map_cons, List.map_nil]); first | done | rfl | (simp only [List.length_drop, List.length_take]; rfl)) ?_
          with_reducible refine (laws_toDisk.calls kj25 _ _ l0_0 t296 _ ?side1 ?side2 A81.out).mono ?_
          (case side1 => repeat (first | exact (Kd.C_below HR0_0.out HB.out) | (with_reducible refine Kd.C_alloc ?_ _) | (with_reducible refine Kd.C_drewN ?_ _) | (with_reducible refine Kd.C_drew ?_)))
          (case side2 => exact HC0_0.out)
          rintro e w95 ⟨v297, rfl, ho0, hb⟩
          refine ⟨_, rfl, ?_⟩
          have n0_ := Aside0.mk (Kd.R_below HO_13.out hb)
          have n1_ := Aside0.mk (Kd.R_below HO_14.out hb)
          have n2_ := Aside0.mk (Kd.R_elder' HO_280000.out (Kd.R_base ho0) hb)
          have n3_ := Aside0.mk (Kd.R_elder' HO_284000.out (Kd.R_base ho0) hb)
          have n4_ := Aside0.mk (Kd.R_elder' HO_295000.out (Kd.R_base ho0) hb)
          have n5_ := Aside0.mk (Kd.R_lower (Kd.R_new' (Kd.R_new' (Kd.R_new' ho0 (Kd.R_lt HO_280000.out)) (Kd.R_lt HO_284000.out)) (Kd.R_lt HO_295000.out)) (below_size HB.out))
          have n6_ := Aside0.mk (blk_below BK263.out hb)
          have n7_ := Aside0.mk (blk_below BK279.out hb)
          have n8_ := Aside0.mk (blk_below BK283.out hb)
          have n9_ := Aside0.mk (blk_below BK294.out hb)
          have n10_ := Aside0.mk (below_step HB.out hb)
          clear HO_13 HO_14 HO_280000 HO_284000 HO_295000 BK263 BK279 BK283 BK294 HB
          have HO_13 := n0_; have HO_14 := n1_; have HO_280000 := n2_; have HO_284000 := n3_; have HO_295000 := n4_; have HO298 := n5_; have BK263 := n6_; have BK279 := n7_; have BK283 := n8_; have BK294 := n9_; have HB := n10_
          clear n0_ n1_ n2_ n3_ n4_ n5_ n6_ n7_ n8_ n9_ n10_
          (try clear hb); (try clear hb2); (try clear hk); (try clear hi); (try clear ho0)
          obtain ⟨Ao96, co96, eo96⟩ := Kd.R_slice HO298.out
          (first | subst eo96 | (injection eo96 with f1_ f2_ f3_; have f4_ := f1_.symm; have f5_ := f3_.symm; clear f1_ f2_ f3_; subst f4_; subst f5_))
          refine hK.out _ _ ⟨(blk_cell BK283.out 0).trans rfl, (blk_cell BK263.out 0).trans rfl⟩ (fun hHeld => ?_)
          clear hK K
          refine norm_ (a' := ?_) ?_ ?_
          rotate_left
          ·show Act.put _ (some 71) _ = _
           simp only [Act.put, List.setIfInBounds_toArray, List.set_cons_zero, List.set_cons_succ, i64_w, i32_w]
           rfl
          refine one_ (i := 3) (N := some 72) #[true, true, true, true, false] rfl rfl (by kernel_rfl) (by decide) (fun K hK => ?_)
          refine goes_ Try.func16 (by kernel_rfl) rfl #[.agg #[.slice Ao46 t280.length co46], .agg #[.slice Ao96 t296.length co96]] (by rfl) rfl rfl (by (try simp only [List.map_toArray, List.map_cons, List.map_nil]); first | done | rfl | (simp only [List.length_drop, List.length_take]; rfl)) ?_
          with_reducible refine (laws_eqDisk.calls kj25 _ _ t280 _ _ t296 true _ ?side1 ?side2 ?side3 ?side4 A82.out).mono ?_
          (case side1 => repeat (first | exact (Kd.R_reads' HO_284000.out).2.2 | (with_reducible refine Kd.C_alloc ?_ _) | (with_reducible refine Kd.C_drewN ?_ _) | (with_reducible refine Kd.C_drew ?_)))
          (case side2 => exact (Kd.R_reads' HO_284000.out).2.1)
          (case side3 => repeat (first | exact (Kd.R_reads' HO298.out).2.2 | (with_reducible refine Kd.C_alloc ?_ _) | (with_reducible refine Kd.C_drewN ?_ _) | (with_reducible refine Kd.C_drew ?_)))
          (case side4 => exact (Kd.R_reads' HO298.out).2.1)
          rintro e w97 ⟨rfl, hb⟩
          refine ⟨_, rfl, ?_⟩
          have n0_ := Aside0.mk (Kd.R_below HO_13.out hb)
          have n1_ := Aside0.mk (Kd.R_below HO_14.out hb)
          have n2_ := Aside0.mk (Kd.R_below HO_280000.out hb)
          have n3_ := Aside0.mk (Kd.R_below HO_284000.out hb)
          have n4_ := Aside0.mk (Kd.R_below HO_295000.out hb)
          have n5_ := Aside0.mk (Kd.R_below HO298.out hb)
          have n6_ := Aside0.mk (blk_below BK263.out hb)
          have n7_ := Aside0.mk (blk_below BK279.out hb)
          have n8_ := Aside0.mk (blk_below BK283.out hb)
          have n9_ := Aside0.mk (blk_below BK294.out hb)
          have n10_ := Aside0.mk (below_step HB.out hb)
          clear HO_13 HO_14 HO_280000 HO_284000 HO_295000 HO298 BK263 BK279 BK283 BK294 HB
          have HO_13 := n0_; have HO_14 := n1_; have HO_280000 := n2_; have HO_284000 := n3_; have HO_295000 := n4_; have HO298 := n5_; have BK263 := n6_; have BK279 := n7_; have BK283 := n8_; have BK294 := n9_; have HB := n10_
          clear n0_ n1_ n2_ n3_ n4_ n5_ n6_ n7_ n8_ n9_ n10_
          (try clear hb); (try clear hb2); (try clear hk); (try clear hi)
          refine hK.out _ _ ⟨(blk_cell BK283.out 0).trans rfl, (blk_cell BK263.out 0).trans rfl⟩ (fun hHeld => ?_)
          clear hK K
          refine norm_ (a' := ?_) ?_ ?_
          rotate_left
          ·show Act.put _ (some 72) _ = _
           simp only [Act.put, List.setIfInBounds_toArray, List.set_cons_zero, List.set_cons_succ, i64_w, i32_w]
           rfl
          refine pure_ (i := 4) (N := some 73) (v := ?_) (a' := ?_) #[true, true, true, true, true] rfl rfl (by kernel_rfl) (fun _ _ _ h => h) (Or.inl ⟨by rfl, ?_⟩) ?_ ?_
          rotate_left
          ·intro w'
           go_simp
           with_reducible rfl
          rotate_left
          ·simp only [Act.put, List.setIfInBounds_toArray, List.set_cons_zero, List.set_cons_succ, i64_w, i32_w]
           rfl
          refine done_ (by kernel_rfl) ?_
          go_upto_region 27 with (first | ((with_reducible refine gate_callee (f := 29) rfl ?_); refine goesL_ (some 76) rfl rfl Try.func29 (by kernel_rfl) rfl #[.slice A1 l1.length c1] rfl (by (try simp only [List.map_toArray, List.map_cons, List.map_nil]); first | done | rfl | (simp only [List.length_drop, List.length_take]; rfl)) ?_; (with_reducible refine (laws_toActS.calls kj25 _ _ l1 t300 _ ?side1 ?side2 A84.out).mono ?_); (case side1 => repeat (first | exact (Kd.C_below HR1.out HB.out) | (with_reducible refine Kd.C_alloc ?_ _) | (with_reducible refine Kd.C_drewN ?_ _) | (with_reducible refine Kd.C_drew ?_))); (case side2 => exact HC1.out); rintro e w98 ⟨v301, rfl, ho0, hb⟩; refine ⟨_, rfl, ?_⟩; have n0_ := Aside0.mk (Kd.R_elder' (rr_ HO_13) (Kd.R_base ho0) hb); have n1_ := Aside0.mk (Kd.R_below (rr_ HO_14) hb); have n2_ := Aside0.mk (Kd.R_below (rr_ HO_280000) hb); have n3_ := Aside0.mk (Kd.R_below (rr_ HO_284000) hb); have n4_ := Aside0.mk (Kd.R_below (rr_ HO_295000) hb); have n5_ := Aside0.mk (Kd.R_below (rr_ HO298) hb); have n6_ := Aside0.mk (Kd.R_lower (Kd.R_new' ho0 (Kd.R_lt (rr_ HO_13))) (below_size (hh_ HB))); have n7_ := Aside0.mk (blk_below (bb_ BK263) hb); have n8_ := Aside0.mk (blk_below (bb_ BK279) hb); have n9_ := Aside0.mk (blk_below (bb_ BK283) hb); have n10_ := Aside0.mk (blk_below (bb_ BK294) hb); have n11_ := Aside0.mk (below_step (hh_ HB) hb); clear HO_13; clear HO_14; clear HO_280000; clear HO_284000; clear HO_295000; clear HO298; clear BK263; clear BK279; clear BK283; clear BK294; clear HB; have HO_13 := n0_; have HO_14 := n1_; have HO_280000 := n2_; have HO_284000 := n3_; have HO_295000 := n4_; have HO298 := n5_; have HO302 := n6_; have BK263 := n7_; have BK279 := n8_; have BK283 := n9_; have BK294 := n10_; have HB := n11_; clear n0_ n1_ n2_ n3_ n4_ n5_ n6_ n7_ n8_ n9_ n10_ n11_; (try clear hb); (try clear hb2); (try clear hk); (try clear hi); (try clear ho0); obtain ⟨Ao99, co99, eo99⟩ := Kd.R_slice HO302.out; subst eo99) | ((with_reducible refine gate_callee (f := 31) rfl ?_); refine goesL_ (some 77) rfl rfl Try.func31 (by kernel_rfl) rfl #[.slice Ao53 t284.length co53, .slice Ao99 t300.length co99] rfl (by (try simp only [List.map_toArray, List.map_cons, List.map_nil]); first | done | rfl | (simp only [List.length_drop, List.length_take]; rfl)) ?_; (with_reducible refine (laws_eqActS.calls kj25 _ _ t284 _ _ t300 true _ ?side1 ?side2 ?side3 ?side4 A85.out).mono ?_); (case side1 => repeat (first | exact (Kd.R_reads' HO_13.out).2.2 | (with_reducible refine Kd.C_alloc ?_ _) | (with_reducible refine Kd.C_drewN ?_ _) | (with_reducible refine Kd.C_drew ?_))); (case side2 => exact (Kd.R_reads' HO_13.out).2.1); (case side3 => repeat (first | exact (Kd.R_reads' HO302.out).2.2 | (with_reducible refine Kd.C_alloc ?_ _) | (with_reducible refine Kd.C_drewN ?_ _) | (with_reducible refine Kd.C_drew ?_))); (case side4 => exact (Kd.R_reads' HO302.out).2.1); rintro e w100 ⟨rfl, hb⟩; refine ⟨_, rfl, ?_⟩; have n0_ := Aside0.mk (Kd.R_below (rr_ HO_13) hb); have n1_ := Aside0.mk (Kd.R_below (rr_ HO_14) hb); have n2_ := Aside0.mk (Kd.R_below (rr_ HO_280000) hb); have n3_ := Aside0.mk (Kd.R_below (rr_ HO_284000) hb); have n4_ := Aside0.mk (Kd.R_below (rr_ HO_295000) hb); have n5_ := Aside0.mk (Kd.R_below (rr_ HO298) hb); have n6_ := Aside0.mk (Kd.R_below (rr_ HO302) hb); have n7_ := Aside0.mk (blk_below (bb_ BK263) hb); have n8_ := Aside0.mk (blk_below (bb_ BK279) hb); have n9_ := Aside0.mk (blk_below (bb_ BK283) hb); have n10_ := Aside0.mk (blk_below (bb_ BK294) hb); have n11_ := Aside0.mk (below_step (hh_ HB) hb); clear HO_13; clear HO_14; clear HO_280000; clear HO_284000; clear HO_295000; clear HO298; clear HO302; clear BK263; clear BK279; clear BK283; clear BK294; clear HB; have HO_13 := n0_; have HO_14 := n1_; have HO_280000 := n2_; have HO_284000 := n3_; have HO_295000 := n4_; have HO298 := n5_; have HO302 := n6_; have BK263 := n7_; have BK279 := n8_; have BK283 := n9_; have BK294 := n10_; have HB := n11_; clear n0_ n1_ n2_ n3_ n4_ n5_ n6_ n7_ n8_ n9_ n10_ n11_; (try clear hb); (try clear hb2); (try clear hk); (try clear hi)) | ((with_reducible refine gate_callee (f := 34) rfl ?_); refine goesL_ (some 81) rfl rfl Try.func34 (by kernel_rfl) rfl #[.slice A3 l3.length c3] rfl (by (try simp only [List.map_toArray, List.map_cons, List.map_nil]); first | done | rfl | (simp only [List.length_drop, List.length_take]; rfl)) ?_; (with_reducible refine (laws_toIntS.calls kj25 _ _ l3 t304 _ ?side1 ?side2 A87.out).mono ?_); (case side1 => repeat (first | exact (Kd.C_below HR3.out HB.out) | (with_reducible refine Kd.C_alloc ?_ _) | (with_reducible refine Kd.C_drewN ?_ _) | (with_reducible refine Kd.C_drew ?_))); (case side2 => exact HC3.out); rintro e w101 ⟨v305, rfl, ho0, hb⟩; refine ⟨_, rfl, ?_⟩; have n0_ := Aside0.mk (Kd.R_below (rr_ HO_13) hb); have n1_ := Aside0.mk (Kd.R_elder' (rr_ HO_14) (Kd.R_base ho0) hb); have n2_ := Aside0.mk (Kd.R_below (rr_ HO_280000) hb); have n3_ := Aside0.mk (Kd.R_below (rr_ HO_284000) hb); have n4_ := Aside0.mk (Kd.R_below (rr_ HO_295000) hb); have n5_ := Aside0.mk (Kd.R_below (rr_ HO298) hb); have n6_ := Aside0.mk (Kd.R_below (rr_ HO302) hb); have n7_ := Aside0.mk (Kd.R_lower (Kd.R_new' ho0 (Kd.R_lt (rr_ HO_14))) (below_size (hh_ HB))); have n8_ := Aside0.mk (blk_below (bb_ BK263) hb); have n9_ := Aside0.mk (blk_below (bb_ BK279) hb); have n10_ := Aside0.mk (blk_below (bb_ BK283) hb); have n11_ := Aside0.mk (blk_below (bb_ BK294) hb); have n12_ := Aside0.mk (below_step (hh_ HB) hb); clear HO_13; clear HO_14; clear HO_280000; clear HO_284000; clear HO_295000; clear HO298; clear HO302; clear BK263; clear BK279; clear BK283; clear BK294; clear HB; have HO_13 := n0_; have HO_14 := n1_; have HO_280000 := n2_; have HO_284000 := n3_; have HO_295000 := n4_; have HO298 := n5_; have HO302 := n6_; have HO306 := n7_; have BK263 := n8_; have BK279 := n9_; have BK283 := n10_; have BK294 := n11_; have HB := n12_; clear n0_ n1_ n2_ n3_ n4_ n5_ n6_ n7_ n8_ n9_ n10_ n11_ n12_; (try clear hb); (try clear hb2); (try clear hk); (try clear hi); (try clear ho0); obtain ⟨Ao102, co102, eo102⟩ := Kd.R_slice HO306.out; subst eo102) | ((with_reducible refine gate_callee (f := 36) rfl ?_); refine goesL_ (some 82) rfl rfl Try.func36 (by kernel_rfl) rfl #[.slice Ao54 t287.length co54, .slice Ao102 t304.length co102] rfl (by (try simp only [List.map_toArray, List.map_cons, List.map_nil]); first | done | rfl | (simp only [List.length_drop, List.length_take]; rfl)) ?_; (with_reducible refine (laws_eqIntS.calls kj25 _ _ t287 _ _ t304 true _ ?side1 ?side2 ?side3 ?side4 A88.out).mono ?_); (case side1 => repeat (first | exact (Kd.R_reads' HO_14.out).2.2 | (with_reducible refine Kd.C_alloc ?_ _) | (with_reducible refine Kd.C_drewN ?_ _) | (with_reducible refine Kd.C_drew ?_))); (case side2 => exact (Kd.R_reads' HO_14.out).2.1); (case side3 => repeat (first | exact (Kd.R_reads' HO306.out).2.2 | (with_reducible refine Kd.C_alloc ?_ _) | (with_reducible refine Kd.C_drewN ?_ _) | (with_reducible refine Kd.C_drew ?_))); (case side4 => exact (Kd.R_reads' HO306.out).2.1); rintro e w' ⟨rfl, ⟨nd, rfl⟩⟩; refine ⟨_, rfl, ?_⟩; have hnb103 := NB283_263.out; have hnc103 := NB263_283.out; have hnb104 := NB283_279.out; have hnc104 := NB279_283.out; have hnb105 := NB283_294.out; have hnc105 := NB294_283.out; have hcz106_0 : w101.cell? ⟨gb283, 0, none⟩ = some (.slice Ao46 t280.length co46) := (blk_cell BK283.out 0).trans rfl; have hfz106_0 := blk_frozen BK283.out 0) | ((with_reducible refine gate_callee (f := 25) rfl ?_); refine goesL_ (some 86) rfl rfl Try.func25 (by kernel_rfl) rfl #[.agg #[.slice Ao46 t280.length co46], .int .i64 1] rfl (by (try simp only [List.map_toArray, List.map_cons, List.map_nil]); first | done | rfl | (simp only [List.length_drop, List.length_take]; rfl)) ?_; (with_reducible refine (laws_markDisk.calls kj25 (fun k_ => some k_ = (.slice Ao46 t280.length co46 : Value).ownBlock) (.slice Ao46 t280.length co46) t280 1 t308 t309 w _ ?side1 ?side2 A90.out).mono ?_); (case side1 => repeat (first | (with_reducible first | exact HB.out | apply below_alloc | apply pw_below_drewN | apply below_drew1 | refine below_set ?_ GE263.out | refine below_set ?_ GE279.out | refine below_set ?_ GE283.out | refine below_set ?_ GE294.out) | exact HB.out)); (case side2 => exact Kd.R_tight rfl HO_284000.out); rintro e w107 ⟨rfl, hy0, hb, hkp⟩; refine ⟨_, rfl, ?_⟩; have n0_ := Aside0.mk (Kd.R_mono (ok' := fun k_ => some k_ ≠ (.slice Ao99 t300.length co99 : Value).ownBlock) (Kd.R_keptB ((Kd.R_apart' HO_13.out (Kd.R_typed HO_284000.out) (by decide))) hkp (fun k_ hk_ hs_ => (hk_.2) hs_)) (fun k_ hk_ => hk_.1.1.2)); have n1_ := Aside0.mk (Kd.R_mono (ok' := fun k_ => some k_ ≠ (.slice Ao102 t304.length co102 : Value).ownBlock) (Kd.R_keptB ((Kd.R_apart' HO_14.out (Kd.R_typed HO_284000.out) (by decide))) hkp (fun k_ hk_ hs_ => (hk_.2) hs_)) (fun k_ hk_ => hk_.1.1.2)); have n2_ := Aside0.mk (Kd.R_mono (ok' := fun k_ => some k_ ≠ (.slice Ao46 t280.length co46 : Value).ownBlock ∧ some k_ ≠ (.slice Ao57 t290.length co57 : Value).ownBlock ∧ some k_ ≠ (.slice Ao96 t296.length co96 : Value).ownBlock) (Kd.R_keptB (HO_280000.out) hkp (fun k_ hk_ hs_ => (hk_.1.1) hs_)) (fun k_ hk_ => ⟨hk_.1.1.1, hk_.1.1.2, hk_.1.2⟩)); have n3_ := Aside0.mk (Kd.R_reok rfl hy0 (fun k_ e_ => HO_284000.out.1 k_ e_)); have n4_ := Aside0.mk (Kd.R_mono (ok' := fun k_ => some k_ ≠ (.slice Ao40 t275.length co40 : Value).ownBlock ∧ some k_ ≠ (.slice Ao46 t280.length co46 : Value).ownBlock ∧ some k_ ≠ (.slice Ao96 t296.length co96 : Value).ownBlock) (Kd.R_keptB (HO_295000.out) hkp (fun k_ hk_ hs_ => (hk_.1.2) hs_)) (fun k_ hk_ => ⟨hk_.1.1.1, hk_.1.1.2, hk_.1.2⟩)); have n5_ := Aside0.mk (blk_kept (bb_ BK263) hkp (fun hs_ => (fun e_ => (Kd.R_ne HO_284000.out BK263.out (by decide)) e_) hs_)); have n6_ := Aside0.mk (blk_kept (bb_ BK279) hkp (fun hs_ => (fun e_ => (Kd.R_ne HO_284000.out BK279.out (by decide)) e_) hs_)); have n7_ := Aside0.mk (blk_kept (bb_ BK283) hkp (fun hs_ => (fun e_ => (Kd.R_ne HO_284000.out BK283.out (by decide)) e_) hs_)); have n8_ := Aside0.mk (blk_kept (bb_ BK294) hkp (fun hs_ => (fun e_ => (Kd.R_ne HO_284000.out BK294.out (by decide)) e_) hs_)); have n9_ := Aside0.mk (Kd.R_mono (ok' := fun k_ => some k_ ≠ (.slice Ao40 t275.length co40 : Value).ownBlock ∧ some k_ ≠ (.slice Ao46 t280.length co46 : Value).ownBlock ∧ some k_ ≠ (.slice Ao57 t290.length co57 : Value).ownBlock) (Kd.R_keptB (HO298.out) hkp (fun k_ hk_ hs_ => (hk_.1.2) hs_)) (fun k_ hk_ => ⟨hk_.1.1.1.2, hk_.1.1.2, hk_.1.2⟩)); have n10_ := Aside0.mk (Kd.R_mono (ok' := fun k_ => some k_ ≠ (.slice Ao53 t284.length co53 : Value).ownBlock) (Kd.R_keptB ((Kd.R_apart' HO302.out (Kd.R_typed HO_284000.out) (by decide))) hkp (fun k_ hk_ hs_ => (hk_.2) hs_)) (fun k_ hk_ => hk_.1.1.2)); have n11_ := Aside0.mk (Kd.R_mono (ok' := fun k_ => some k_ ≠ (.slice Ao54 t287.length co54 : Value).ownBlock) (Kd.R_keptB ((Kd.R_apart' HO306.out (Kd.R_typed HO_284000.out) (by decide))) hkp (fun k_ hk_ hs_ => (hk_.2) hs_)) (fun k_ hk_ => hk_.1.1.2)); have n12_ := Aside0.mk (hb); clear HO_13; clear HO_14; clear HO_280000; clear HO_284000; clear HO_295000; clear BK263; clear BK279; clear BK283; clear BK294; clear HO298; clear HO302; clear HO306; clear HB; have HO_13 := n0_; have HO_14 := n1_; have HO_280000 := n2_; have HO_284000 := n3_; have HO_295000 := n4_; have BK263 := n5_; have BK279 := n6_; have BK283 := n7_; have BK294 := n8_; have HO298 := n9_; have HO302 := n10_; have HO306 := n11_; have HB := n12_; clear n0_ n1_ n2_ n3_ n4_ n5_ n6_ n7_ n8_ n9_ n10_ n11_ n12_; (try clear hb); (try clear hkp); (try clear hy0)) | ((with_reducible refine gate_callee (f := 32) rfl ?_); refine goesL_ (some 89) rfl rfl Try.func32 (by kernel_rfl) rfl #[.slice Ao53 t284.length co53, .int .i64 t308] rfl (by (try simp only [List.map_toArray, List.map_cons, List.map_nil]); first | done | rfl | (simp only [List.length_drop, List.length_take]; rfl)) ?_; (with_reducible refine (laws_markActS.calls kj25 (fun k_ => some k_ = (.slice Ao53 t284.length co53 : Value).ownBlock) (.slice Ao53 t284.length co53) t284 t308 t310 t311 w _ ?side1 ?side2 A91.out).mono ?_); (case side1 => repeat (first | (with_reducible first | exact HB.out | apply below_alloc | apply pw_below_drewN | apply below_drew1 | refine below_set ?_ GE263.out | refine below_set ?_ GE279.out | refine below_set ?_ GE283.out | refine below_set ?_ GE294.out) | exact HB.out)); (case side2 => exact Kd.R_tight rfl HO_13.out); rintro e w108 ⟨rfl, hy0, hb, hkp⟩; refine ⟨_, rfl, ?_⟩; have n0_ := Aside0.mk (Kd.R_reok rfl hy0 (fun k_ e_ => HO_13.out.1 k_ e_)); have n1_ := Aside0.mk (Kd.R_mono (ok' := fun k_ => some k_ ≠ (.slice Ao102 t304.length co102 : Value).ownBlock) (Kd.R_keptB ((Kd.R_apart' HO_14.out (Kd.R_typed HO_13.out) (by decide))) hkp (fun k_ hk_ hs_ => (hk_.2) hs_)) (fun k_ hk_ => hk_.1.1)); have n2_ := Aside0.mk (Kd.R_mono (ok' := fun k_ => some k_ ≠ (.slice Ao46 t280.length co46 : Value).ownBlock ∧ some k_ ≠ (.slice Ao57 t290.length co57 : Value).ownBlock ∧ some k_ ≠ (.slice Ao96 t296.length co96 : Value).ownBlock) (Kd.R_keptB ((Kd.R_apart' HO_280000.out (Kd.R_typed HO_13.out) (by decide))) hkp (fun k_ hk_ hs_ => (hk_.2) hs_)) (fun k_ hk_ => ⟨hk_.1.1.1, hk_.1.1.2.1, hk_.1.1.2.2⟩)); have n3_ := Aside0.mk (Kd.R_mono (ok' := fun k_ => some k_ ≠ (.slice Ao40 t275.length co40 : Value).ownBlock ∧ some k_ ≠ (.slice Ao57 t290.length co57 : Value).ownBlock ∧ some k_ ≠ (.slice Ao96 t296.length co96 : Value).ownBlock) (Kd.R_keptB ((Kd.R_apart' HO_284000.out (Kd.R_typed HO_13.out) (by decide))) hkp (fun k_ hk_ hs_ => (hk_.2) hs_)) (fun k_ hk_ => ⟨hk_.1.1.1.1, hk_.1.1.1.2, hk_.1.1.2⟩)); have n4_ := Aside0.mk (Kd.R_mono (ok' := fun k_ => some k_ ≠ (.slice Ao40 t275.length co40 : Value).ownBlock ∧ some k_ ≠ (.slice Ao46 t280.length co46 : Value).ownBlock ∧ some k_ ≠ (.slice Ao96 t296.length co96 : Value).ownBlock) (Kd.R_keptB ((Kd.R_apart' HO_295000.out (Kd.R_typed HO_13.out) (by decide))) hkp (fun k_ hk_ hs_ => (hk_.2) hs_)) (fun k_ hk_ => ⟨hk_.1.1.1, hk_.1.1.2.1, hk_.1.1.2.2⟩)); have n5_ := Aside0.mk (blk_kept (bb_ BK263) hkp (fun hs_ => (fun e_ => (Kd.R_ne HO_13.out BK263.out (by decide)) e_) hs_)); have n6_ := Aside0.mk (blk_kept (bb_ BK279) hkp (fun hs_ => (fun e_ => (Kd.R_ne HO_13.out BK279.out (by decide)) e_) hs_)); have n7_ := Aside0.mk (blk_kept (bb_ BK283) hkp (fun hs_ => (fun e_ => (Kd.R_ne HO_13.out BK283.out (by decide)) e_) hs_)); have n8_ := Aside0.mk (blk_kept (bb_ BK294) hkp (fun hs_ => (fun e_ => (Kd.R_ne HO_13.out BK294.out (by decide)) e_) hs_)); have n9_ := Aside0.mk (Kd.R_mono (ok' := fun k_ => some k_ ≠ (.slice Ao40 t275.length co40 : Value).ownBlock ∧ some k_ ≠ (.slice Ao46 t280.length co46 : Value).ownBlock ∧ some k_ ≠ (.slice Ao57 t290.length co57 : Value).ownBlock) (Kd.R_keptB ((Kd.R_apart' HO298.out (Kd.R_typed HO_13.out) (by decide))) hkp (fun k_ hk_ hs_ => (hk_.2) hs_)) (fun k_ hk_ => ⟨hk_.1.1.1, hk_.1.1.2.1, hk_.1.1.2.2⟩)); have n10_ := Aside0.mk (Kd.R_mono (ok' := fun k_ => some k_ ≠ (.slice Ao53 t284.length co53 : Value).ownBlock) (Kd.R_keptB (HO302.out) hkp (fun k_ hk_ hs_ => (hk_) hs_)) (fun k_ hk_ => hk_.1)); have n11_ := Aside0.mk (Kd.R_mono (ok' := fun k_ => some k_ ≠ (.slice Ao54 t287.length co54 : Value).ownBlock) (Kd.R_keptB ((Kd.R_apart' HO306.out (Kd.R_typed HO_13.out) (by decide))) hkp (fun k_ hk_ hs_ => (hk_.2) hs_)) (fun k_ hk_ => hk_.1.1)); have n12_ := Aside0.mk (hb); clear HO_13; clear HO_14; clear HO_280000; clear HO_284000; clear HO_295000; clear BK263; clear BK279; clear BK283; clear BK294; clear HO298; clear HO302; clear HO306; clear HB; have HO_13 := n0_; have HO_14 := n1_; have HO_280000 := n2_; have HO_284000 := n3_; have HO_295000 := n4_; have BK263 := n5_; have BK279 := n6_; have BK283 := n7_; have BK294 := n8_; have HO298 := n9_; have HO302 := n10_; have HO306 := n11_; have HB := n12_; clear n0_ n1_ n2_ n3_ n4_ n5_ n6_ n7_ n8_ n9_ n10_ n11_ n12_; (try clear hb); (try clear hkp); (try clear hy0)) | ((with_reducible refine gate_callee (f := 37) rfl ?_); refine goesL_ (some 92) rfl rfl Try.func37 (by kernel_rfl) rfl #[.slice Ao54 t287.length co54, .int .i64 t310] rfl (by (try simp only [List.map_toArray, List.map_cons, List.map_nil]); first | done | rfl | (simp only [List.length_drop, List.length_take]; rfl)) ?_; (with_reducible refine (laws_markIntS.calls kj25 (fun k_ => some k_ = (.slice Ao54 t287.length co54 : Value).ownBlock) (.slice Ao54 t287.length co54) t287 t310 t312 t313 w _ ?side1 ?side2 A92.out).mono ?_); (case side1 => repeat (first | (with_reducible first | exact HB.out | apply below_alloc | apply pw_below_drewN | apply below_drew1 | refine below_set ?_ GE263.out | refine below_set ?_ GE279.out | refine below_set ?_ GE283.out | refine below_set ?_ GE294.out) | exact HB.out)); (case side2 => exact Kd.R_tight rfl HO_14.out); rintro e w109 ⟨rfl, hy0, hb, hkp⟩; refine ⟨_, rfl, ?_⟩; have n0_ := Aside0.mk (Kd.R_mono (ok' := fun k_ => some k_ ≠ (.slice Ao99 t300.length co99 : Value).ownBlock) (Kd.R_keptB ((Kd.R_apart' HO_13.out (Kd.R_typed HO_14.out) (by decide))) hkp (fun k_ hk_ hs_ => (hk_.2) hs_)) (fun k_ hk_ => hk_.1.1)); have n1_ := Aside0.mk (Kd.R_reok rfl hy0 (fun k_ e_ => HO_14.out.1 k_ e_)); have n2_ := Aside0.mk (Kd.R_mono (ok' := fun k_ => some k_ ≠ (.slice Ao46 t280.length co46 : Value).ownBlock ∧ some k_ ≠ (.slice Ao57 t290.length co57 : Value).ownBlock ∧ some k_ ≠ (.slice Ao96 t296.length co96 : Value).ownBlock) (Kd.R_keptB ((Kd.R_apart' HO_280000.out (Kd.R_typed HO_14.out) (by decide))) hkp (fun k_ hk_ hs_ => (hk_.2) hs_)) (fun k_ hk_ => ⟨hk_.1.1.1, hk_.1.1.2.1, hk_.1.1.2.2⟩)); have n3_ := Aside0.mk (Kd.R_mono (ok' := fun k_ => some k_ ≠ (.slice Ao40 t275.length co40 : Value).ownBlock ∧ some k_ ≠ (.slice Ao57 t290.length co57 : Value).ownBlock ∧ some k_ ≠ (.slice Ao96 t296.length co96 : Value).ownBlock) (Kd.R_keptB ((Kd.R_apart' HO_284000.out (Kd.R_typed HO_14.out) (by decide))) hkp (fun k_ hk_ hs_ => (hk_.2) hs_)) (fun k_ hk_ => ⟨hk_.1.1.1, hk_.1.1.2.1, hk_.1.1.2.2⟩)); have n4_ := Aside0.mk (Kd.R_mono (ok' := fun k_ => some k_ ≠ (.slice Ao40 t275.length co40 : Value).ownBlock ∧ some k_ ≠ (.slice Ao46 t280.length co46 : Value).ownBlock ∧ some k_ ≠ (.slice Ao96 t296.length co96 : Value).ownBlock) (Kd.R_keptB ((Kd.R_apart' HO_295000.out (Kd.R_typed HO_14.out) (by decide))) hkp (fun k_ hk_ hs_ => (hk_.2) hs_)) (fun k_ hk_ => ⟨hk_.1.1.1, hk_.1.1.2.1, hk_.1.1.2.2⟩)); have n5_ := Aside0.mk (blk_kept (bb_ BK263) hkp (fun hs_ => (fun e_ => (Kd.R_ne HO_14.out BK263.out (by decide)) e_) hs_)); have n6_ := Aside0.mk (blk_kept (bb_ BK279) hkp (fun hs_ => (fun e_ => (Kd.R_ne HO_14.out BK279.out (by decide)) e_) hs_)); have n7_ := Aside0.mk (blk_kept (bb_ BK283) hkp (fun hs_ => (fun e_ => (Kd.R_ne HO_14.out BK283.out (by decide)) e_) hs_)); have n8_ := Aside0.mk (blk_kept (bb_ BK294) hkp (fun hs_ => (fun e_ => (Kd.R_ne HO_14.out BK294.out (by decide)) e_) hs_)); have n9_ := Aside0.mk (Kd.R_mono (ok' := fun k_ => some k_ ≠ (.slice Ao40 t275.length co40 : Value).ownBlock ∧ some k_ ≠ (.slice Ao46 t280.length co46 : Value).ownBlock ∧ some k_ ≠ (.slice Ao57 t290.length co57 : Value).ownBlock) (Kd.R_keptB ((Kd.R_apart' HO298.out (Kd.R_typed HO_14.out) (by decide))) hkp (fun k_ hk_ hs_ => (hk_.2) hs_)) (fun k_ hk_ => ⟨hk_.1.1.1, hk_.1.1.2.1, hk_.1.1.2.2⟩)); have n10_ := Aside0.mk (Kd.R_mono (ok' := fun k_ => some k_ ≠ (.slice Ao53 t284.length co53 : Value).ownBlock) (Kd.R_keptB ((Kd.R_apart' HO302.out (Kd.R_typed HO_14.out) (by decide))) hkp (fun k_ hk_ hs_ => (hk_.2) hs_)) (fun k_ hk_ => hk_.1.1)); have n11_ := Aside0.mk (Kd.R_mono (ok' := fun k_ => some k_ ≠ (.slice Ao54 t287.length co54 : Value).ownBlock) (Kd.R_keptB (HO306.out) hkp (fun k_ hk_ hs_ => (hk_) hs_)) (fun k_ hk_ => hk_.1)); have n12_ := Aside0.mk (hb); clear HO_13; clear HO_14; clear HO_280000; clear HO_284000; clear HO_295000; clear BK263; clear BK279; clear BK283; clear BK294; clear HO298; clear HO302; clear HO306; clear HB; have HO_13 := n0_; have HO_14 := n1_; have HO_280000 := n2_; have HO_284000 := n3_; have HO_295000 := n4_; have BK263 := n5_; have BK279 := n6_; have BK283 := n7_; have BK294 := n8_; have HO298 := n9_; have HO302 := n10_; have HO306 := n11_; have HB := n12_; clear n0_ n1_ n2_ n3_ n4_ n5_ n6_ n7_ n8_ n9_ n10_ n11_ n12_; (try clear hb); (try clear hkp); (try clear hy0)))
          (try simp only [Act.put, List.setIfInBounds_toArray, List.set_cons_zero, List.set_cons_succ])
          go_cut [105] (fun v105 wc => ∃ (kq : Nat) (x105_92 : Bool), v105 = .bool x105_92 ∧ Aside0 (laws_FnExactCutActs.j1 kq l1 a2 l3 t278 x105_92 l0_0 t275 t290 = some r) ∧ Aside0 (kq ≤ kj25) ∧ Aside0 (Kd.R k67 67 wc w.heap.size (fun k_ => some k_ ≠ ((.slice Ao46 t280.length co46) : Value).ownBlock ∧ some k_ ≠ ((.slice Ao57 t290.length co57) : Value).ownBlock) (.slice Ao40 t275.length co40) t275) ∧ Aside0 (Kd.R k67 67 wc w.heap.size (fun k_ => some k_ ≠ ((.slice Ao40 t275.length co40) : Value).ownBlock ∧ some k_ ≠ ((.slice Ao57 t290.length co57) : Value).ownBlock) (.slice Ao46 t280.length co46) t309) ∧ Aside0 (Kd.R k67 67 wc w.heap.size (fun k_ => some k_ ≠ ((.slice Ao40 t275.length co40) : Value).ownBlock ∧ some k_ ≠ ((.slice Ao46 t280.length co46) : Value).ownBlock) (.slice Ao57 t290.length co57) t290) ∧ Aside0 (wc.heap[gb263]? = some (.cells #[(.slice A0_0 l0_0.length c0_0)] 24 (0, 0))) ∧ Aside0 (wc.heap[gb279]? = some (.cells #[(.slice Ao40 t275.length co40)] 29 (0, 0))) ∧ Aside0 (wc.heap[gb283]? = some (.cells #[(.slice Ao46 t280.length co46)] 29 (0, 0))) ∧ Aside0 (wc.heap[gb294]? = some (.cells #[(.slice Ao57 t290.length co57)] 29 (0, 0))) ∧ Aside0 (Below w.heap.size w wc))
          case first =>
           have H := HC93.out
           clear HC93
           by_cases c110 : t312 < 0
           ·rw [if_pos c110] at H
            have c110b0 : decide (t312 < 0) = true := decide_eq_true c110
            clear c110
            (first | rw [c110b0] | (simp only [i64_w, i32_w]; rw [c110b0]) | skip)
            exact absurd H (by rw [hr_.out]; cases kj25 <;> simp [laws_FnExactCutActs.j1])
           ·rw [if_neg c110] at H
            have c110b0 : decide (t312 < 0) = false := decide_eq_false c110
            clear c110
            (first | rw [c110b0] | (simp only [i64_w, i32_w]; rw [c110b0]) | skip)
            replace H := Option.bind_eq_some_iff.mp H
            obtain ⟨t314, A1110, H⟩ := H
            replace H : (if t314 = true then (laws_FnExactCutActs.j1 kj25 l1 a2 l3 t278 (t293 != t278) l0_0 t275 t290) else (laws_FnExactCutActs.j1 kj25 l1 a2 l3 t278 true l0_0 t275 t290)) = some r := H
            have A111 := Aside0.mk A1110
            clear A1110
            by_cases c112 : t314 = true
            ·subst c112
             have H1 : (laws_FnExactCutActs.j1 kj25 l1 a2 l3 t278 (t293 != t278) l0_0 t275 t290) = some r := by rw [if_pos rfl] at H; exact H
             clear H
             have H := H1
             clear H1
             have H' := Aside0.mk H
             clear H
             have hnb113 := NB294_263.out; have hnc113 := NB263_294.out; have hnb114 := NB294_279.out; have hnc114 := NB279_294.out; have hnb115 := NB294_283.out; have hnc115 := NB283_294.out
             have hcz116_0 : w109.cell? ⟨gb294, 0, none⟩ = some (.slice Ao57 t290.length co57) := (blk_cell BK294.out 0).trans rfl
             have hfz116_0 := blk_frozen BK294.out 0
             have hnb117 := NB279_263.out; have hnc117 := NB263_279.out; have hnb118 := NB279_283.out; have hnc118 := NB283_279.out
             have hcz119_0 : w109.cell? ⟨gb279, 0, none⟩ = some (.slice Ao40 t275.length co40) := (blk_cell BK279.out 0).trans rfl
             have hfz119_0 := blk_frozen BK279.out 0
             go_wp2_with (first | (go_at_call 16; (with_reducible refine (laws_eqDisk.calls kj25 _ _ t290 _ _ t275 true _ ?side1 ?side2 ?side3 ?side4 A111.out).mono ?_); (case side1 => repeat (first | exact (Kd.R_reads' HO_295000.out).2.2 | (with_reducible refine Kd.C_alloc ?_ _) | (with_reducible refine Kd.C_drewN ?_ _) | (with_reducible refine Kd.C_drew ?_))); (case side2 => exact (Kd.R_reads' HO_295000.out).2.1); (case side3 => repeat (first | exact (Kd.R_reads' HO_280000.out).2.2 | (with_reducible refine Kd.C_alloc ?_ _) | (with_reducible refine Kd.C_drewN ?_ _) | (with_reducible refine Kd.C_drew ?_))); (case side4 => exact (Kd.R_reads' HO_280000.out).2.1); rintro e w120 ⟨rfl, hb⟩; have n0_ := Aside0.mk (Kd.R_below (rr_ HO_13) hb); have n1_ := Aside0.mk (Kd.R_below (rr_ HO_14) hb); have n2_ := Aside0.mk (Kd.R_below (rr_ HO_280000) hb); have n3_ := Aside0.mk (Kd.R_below (rr_ HO_284000) hb); have n4_ := Aside0.mk (Kd.R_below (rr_ HO_295000) hb); have n5_ := Aside0.mk (Kd.R_below (rr_ HO298) hb); have n6_ := Aside0.mk (Kd.R_below (rr_ HO302) hb); have n7_ := Aside0.mk (Kd.R_below (rr_ HO306) hb); have n8_ := Aside0.mk (blk_below (bb_ BK263) hb); have n9_ := Aside0.mk (blk_below (bb_ BK279) hb); have n10_ := Aside0.mk (blk_below (bb_ BK283) hb); have n11_ := Aside0.mk (blk_below (bb_ BK294) hb); have n12_ := Aside0.mk (below_step (hh_ HB) hb); clear HO_13; clear HO_14; clear HO_280000; clear HO_284000; clear HO_295000; clear HO298; clear HO302; clear HO306; clear BK263; clear BK279; clear BK283; clear BK294; clear HB; have HO_13 := n0_; have HO_14 := n1_; have HO_280000 := n2_; have HO_284000 := n3_; have HO_295000 := n4_; have HO298 := n5_; have HO302 := n6_; have HO306 := n7_; have BK263 := n8_; have BK279 := n9_; have BK283 := n10_; have BK294 := n11_; have HB := n12_; clear n0_ n1_ n2_ n3_ n4_ n5_ n6_ n7_ n8_ n9_ n10_ n11_ n12_; (try clear hb); (try clear hb2); (try clear hk); (try clear hi)))
             go_meet
             case rel => exact ⟨_, ((t293 != t278)), (by first | rfl | (simp; done) | (simp [*]; done)), H', ⟨by have := HJ25.out; first | omega | exact Nat.le_refl _⟩, ⟨by (with_reducible repeat (first | apply Kd.R_alloc | apply Kd.R_drewN | apply Kd.R_drew)); exact Kd.R_mono HO_280000.out (fun _ hk => ⟨hk.1, hk.2.1⟩)⟩, ⟨by (with_reducible repeat (first | apply Kd.R_alloc | apply Kd.R_drewN | apply Kd.R_drew)); exact Kd.R_mono HO_284000.out (fun _ hk => ⟨hk.1, hk.2.1⟩)⟩, ⟨by (with_reducible repeat (first | apply Kd.R_alloc | apply Kd.R_drewN | apply Kd.R_drew)); exact Kd.R_mono HO_295000.out (fun _ hk => ⟨hk.1, hk.2.1⟩)⟩, ⟨bb_ BK263⟩, ⟨bb_ BK279⟩, ⟨bb_ BK283⟩, ⟨bb_ BK294⟩, ⟨hh_ HB⟩⟩
            ·replace c112 := Bool.eq_false_iff.mpr c112
             subst c112
             have H1 : (laws_FnExactCutActs.j1 kj25 l1 a2 l3 t278 true l0_0 t275 t290) = some r := by rw [if_neg (show ¬ (false = true) by decide)] at H; exact H
             clear H
             have H := H1
             clear H1
             exact absurd H (by rw [hr_.out]; cases kj25 <;> simp [laws_FnExactCutActs.j1])
          case rest =>
           clear HC93
           try clear c1
           try clear c2
           try clear p2
           try clear c3
           try clear c4
           try clear c5
           try clear c5b0
           try clear c5b1
           try clear c6
           try clear c7
           try clear c8
           try clear c8b0
           try clear c9
           try clear c10
           try clear c11
           try clear c12
           try clear c13
           try clear c13b0
           try clear c14
           try clear c16
           try clear c25
           try clear c27
           try clear c29
           try clear c31
           try clear c32
           try clear c34
           try clear c36
           try clear c37
           try clear c38
           try clear c39
           try clear c41
           try clear c47
           try clear c48
           try clear c58
           try clear c59
           try clear c60
           try clear c63
           try clear c64
           try clear c65
           try clear c66
           try clear c68
           try clear c69
           try clear c72
           try clear c73
           try clear c74
           try clear c76
           try clear c77
           try clear c80
           try clear c83
           try clear c86
           try clear c89
           try clear c103
           try clear c104
           try clear c105
           try clear c110
           try clear c110b0
           try clear c112
           try clear c113
           try clear c114
           try clear c115
           try clear c117
           try clear c118
           try clear c121
           try clear c122
           try clear c123
           try clear c125
           try clear c126
           try clear hcz106_0
           try clear hcz10_0
           try clear hcz116_0
           try clear hcz119_0
           try clear hcz124_0
           try clear hcz127_0
           try clear hcz15_0
           try clear hcz28_0
           try clear hcz31_0
           try clear hcz42_0
           try clear hcz43_0
           try clear hcz49_0
           try clear hcz52_0
           try clear hcz61_0
           try clear hcz67_0
           try clear hcz70_0
           try clear hcz75_0
           try clear hcz78_0
           try clear hfz106_0
           try clear hfz10_0
           try clear hfz116_0
           try clear hfz119_0
           try clear hfz124_0
           try clear hfz127_0
           try clear hfz15_0
           try clear hfz28_0
           try clear hfz31_0
           try clear hfz42_0
           try clear hfz43_0
           try clear hfz49_0
           try clear hfz52_0
           try clear hfz61_0
           try clear hfz67_0
           try clear hfz70_0
           try clear hfz75_0
           try clear hfz78_0
           try clear p2
           obtain ⟨kq, x105_92, rfl, HA, HJ92, HO_280000, HO_284000, HO_295000, BK263, BK279, BK283, BK294, HB⟩ := hcut
           have hl284000_92 := (Kd.R_reads' HO_284000.out).1
           rw [hl284000_92] at HO_284000
           (try simp only [hl284000_92])
           (try simp only [hl284000_92] at BK263)
           (try simp only [hl284000_92] at BK279)
           (try simp only [hl284000_92] at BK283)
           (try simp only [hl284000_92] at BK294)
           (try simp only [hl284000_92] at HO_280000)
           (try simp only [hl284000_92] at HO_295000)
           cases kq with
           | zero => exact absurd HA.out (by simp [laws_FnExactCutActs.j1])
           | succ kj92 =>
            have H := HA.out
            clear HA
            simp only [laws_FnExactCutActs.j1] at H
            by_cases c129 : x105_92 = true
            ·subst c129
             have H1 : (some false) = some r := by rw [if_pos rfl] at H; exact H
             clear H
             have H := H1
             clear H1
             obtain rfl := Option.some.inj H
             exact absurd hr_.out (by decide)
            ·replace c129 := Bool.eq_false_iff.mpr c129
             subst c129
             have H1 : ((laws_markDisk.f kj92 t290 1).bind fun bt315 => ((laws_heldDisk.f kj92 bt315.2 1).bind fun t317 => (if t317 < 0 then (some false) else (if t317 = bt315.1 then ((laws_toDisk.f kj92 l0_0).bind fun t318 => ((laws_toActS.f kj92 l1).bind fun t321 => ((laws_toIntS.f kj92 l3).bind fun t324 => ((impl_CutActs.f kj92 t318 t321 a2 t324).bind fun bt327 => ((laws_eqDisk.f kj92 bt327.1 t275).bind fun t332 => (if t332 = true then (laws_FnExactCutActs.j2 kj92 bt315.1 (bt327.2 != t278) bt315.2) else (laws_FnExactCutActs.j2 kj92 bt315.1 true bt315.2))))))) else (some false))))) = some r := by rw [if_neg (show ¬ (false = true) by decide)] at H; exact H
             clear H
             have H := H1
             clear H1
             replace H := Option.bind_eq_some_iff.mp H
             obtain ⟨⟨t315, t316⟩, A1300, H⟩ := H
             replace H : ((laws_heldDisk.f kj92 t316 1).bind fun t317 => (if t317 < 0 then (some false) else (if t317 = t315 then ((laws_toDisk.f kj92 l0_0).bind fun t318 => ((laws_toActS.f kj92 l1).bind fun t321 => ((laws_toIntS.f kj92 l3).bind fun t324 => ((impl_CutActs.f kj92 t318 t321 a2 t324).bind fun bt327 => ((laws_eqDisk.f kj92 bt327.1 t275).bind fun t332 => (if t332 = true then (laws_FnExactCutActs.j2 kj92 t315 (bt327.2 != t278) t316) else (laws_FnExactCutActs.j2 kj92 t315 true t316))))))) else (some false)))) = some r := H
             have A130 := Aside0.mk A1300
             clear A1300
             replace H := Option.bind_eq_some_iff.mp H
             obtain ⟨t317, A1310, H⟩ := H
             replace H : (if t317 < 0 then (some false) else (if t317 = t315 then ((laws_toDisk.f kj92 l0_0).bind fun t318 => ((laws_toActS.f kj92 l1).bind fun t321 => ((laws_toIntS.f kj92 l3).bind fun t324 => ((impl_CutActs.f kj92 t318 t321 a2 t324).bind fun bt327 => ((laws_eqDisk.f kj92 bt327.1 t275).bind fun t332 => (if t332 = true then (laws_FnExactCutActs.j2 kj92 t315 (bt327.2 != t278) t316) else (laws_FnExactCutActs.j2 kj92 t315 true t316))))))) else (some false))) = some r := H
             have A131 := Aside0.mk A1310
             clear A1310
             by_cases c132 : t317 < 0
             ·rw [if_pos c132] at H
              have c132b0 : decide (t317 < 0) = true := decide_eq_true c132
              clear c132
              obtain rfl := Option.some.inj H
              have hnb133 := NB294_263.out; have hnc133 := NB263_294.out; have hnb134 := NB294_279.out; have hnc134 := NB279_294.out; have hnb135 := NB294_283.out; have hnc135 := NB283_294.out
              have hcz136_0 : wc.cell? ⟨gb294, 0, none⟩ = some (.slice Ao57 t290.length co57) := (blk_cell BK294.out 0).trans rfl
              have hfz136_0 := blk_frozen BK294.out 0
              go_wp2_with (first | ((with_reducible refine gate_callee (f := 25) rfl ?_); refine goesL_ (some 108) rfl rfl Try.func25 (by kernel_rfl) rfl #[.agg #[.slice Ao57 t290.length co57], .int .i64 1] rfl (by (try simp only [List.map_toArray, List.map_cons, List.map_nil]); first | done | rfl | (simp only [List.length_drop, List.length_take]; rfl)) ?_; (with_reducible refine (laws_markDisk.calls kj92 (fun k_ => some k_ = (.slice Ao57 t290.length co57 : Value).ownBlock) (.slice Ao57 t290.length co57) t290 1 t315 t316 w _ ?side1 ?side2 A130.out).mono ?_); (case side1 => repeat (first | (with_reducible first | exact HB.out | apply below_alloc | apply pw_below_drewN | apply below_drew1 | refine below_set ?_ GE263.out | refine below_set ?_ GE279.out | refine below_set ?_ GE283.out | refine below_set ?_ GE294.out) | exact HB.out)); (case side2 => exact Kd.R_tight rfl HO_295000.out); rintro e w137 ⟨rfl, hy0, hb, hkp⟩; refine ⟨_, rfl, ?_⟩; have n0_ := Aside0.mk (Kd.R_mono (ok' := fun k_ => some k_ ≠ (.slice Ao46 t309.length co46 : Value).ownBlock ∧ some k_ ≠ (.slice Ao57 t290.length co57 : Value).ownBlock) (Kd.R_keptB (HO_280000.out) hkp (fun k_ hk_ hs_ => (hk_.2) hs_)) (fun k_ hk_ => ⟨hk_.1.1, hk_.1.2⟩)); have n1_ := Aside0.mk (Kd.R_mono (ok' := fun k_ => some k_ ≠ (.slice Ao40 t275.length co40 : Value).ownBlock ∧ some k_ ≠ (.slice Ao57 t290.length co57 : Value).ownBlock) (Kd.R_keptB (HO_284000.out) hkp (fun k_ hk_ hs_ => (hk_.2) hs_)) (fun k_ hk_ => ⟨hk_.1.1, hk_.1.2⟩)); have n2_ := Aside0.mk (Kd.R_reok rfl hy0 (fun k_ e_ => HO_295000.out.1 k_ e_)); have n3_ := Aside0.mk (blk_kept (bb_ BK263) hkp (fun hs_ => (fun e_ => (Kd.R_ne HO_295000.out BK263.out (by decide)) e_) hs_)); have n4_ := Aside0.mk (blk_kept (bb_ BK279) hkp (fun hs_ => (fun e_ => (Kd.R_ne HO_295000.out BK279.out (by decide)) e_) hs_)); have n5_ := Aside0.mk (blk_kept (bb_ BK283) hkp (fun hs_ => (fun e_ => (Kd.R_ne HO_295000.out BK283.out (by decide)) e_) hs_)); have n6_ := Aside0.mk (blk_kept (bb_ BK294) hkp (fun hs_ => (fun e_ => (Kd.R_ne HO_295000.out BK294.out (by decide)) e_) hs_)); have n7_ := Aside0.mk (hb); clear HO_280000; clear HO_284000; clear HO_295000; clear BK263; clear BK279; clear BK283; clear BK294; clear HB; have HO_280000 := n0_; have HO_284000 := n1_; have HO_295000 := n2_; have BK263 := n3_; have BK279 := n4_; have BK283 := n5_; have BK294 := n6_; have HB := n7_; clear n0_ n1_ n2_ n3_ n4_ n5_ n6_ n7_; (try clear hb); (try clear hkp); (try clear hy0); have hcz138_0 : w137.cell? ⟨gb294, 0, none⟩ = some (.slice Ao57 t290.length co57) := (blk_cell BK294.out 0).trans rfl; have hfz138_0 := blk_frozen BK294.out 0) | ((with_reducible refine gate_callee (f := 26) rfl ?_); refine goesL_ (some 111) rfl rfl Try.func26 (by kernel_rfl) rfl #[.agg #[.slice Ao57 t316.length co57], .int .i64 1] rfl (by (try simp only [List.map_toArray, List.map_cons, List.map_nil]); first | done | (rw [show t316.length = t290.length from (Kd.R_reads' HO_295000.out).1.symm] <;> rfl) | rfl | (simp only [List.length_drop, List.length_take]; rfl)) ?_; (with_reducible refine (laws_heldDisk.calls kj92 _ _ t316 1 t317 _ ?side1 ?side2 A131.out).mono ?_); (case side1 => repeat (first | exact (Kd.R_reads' HO_295000.out).2.2 | (with_reducible refine Kd.C_alloc ?_ _) | (with_reducible refine Kd.C_drewN ?_ _) | (with_reducible refine Kd.C_drew ?_))); (case side2 => rw [show t316.length = t290.length from (Kd.R_reads' HO_295000.out).1.symm]; exact (Kd.R_reads' HO_295000.out).2.1); rintro e w139 ⟨rfl, hb⟩; refine ⟨_, rfl, ?_⟩; have n0_ := Aside0.mk (Kd.R_below (rr_ HO_280000) hb); have n1_ := Aside0.mk (Kd.R_below (rr_ HO_284000) hb); have n2_ := Aside0.mk (Kd.R_below (rr_ HO_295000) hb); have n3_ := Aside0.mk (blk_below (bb_ BK263) hb); have n4_ := Aside0.mk (blk_below (bb_ BK279) hb); have n5_ := Aside0.mk (blk_below (bb_ BK283) hb); have n6_ := Aside0.mk (blk_below (bb_ BK294) hb); have n7_ := Aside0.mk (below_step (hh_ HB) hb); clear HO_280000; clear HO_284000; clear HO_295000; clear BK263; clear BK279; clear BK283; clear BK294; clear HB; have HO_280000 := n0_; have HO_284000 := n1_; have HO_295000 := n2_; have BK263 := n3_; have BK279 := n4_; have BK283 := n5_; have BK294 := n6_; have HB := n7_; clear n0_ n1_ n2_ n3_ n4_ n5_ n6_ n7_; (try clear hb); (try clear hb2); (try clear hk); (try clear hi)))
              go_ret
              exact ⟨by first | rfl | (simp [errW_none, errW_some] <;> rfl) | (simp [*, errW_none, errW_some] <;> rfl), by repeat (first | (with_reducible first | exact HB.out | apply below_alloc | apply pw_below_drewN | apply below_drew1 | refine below_set ?_ GE263.out | refine below_set ?_ GE279.out | refine below_set ?_ GE283.out | refine below_set ?_ GE294.out) | exact HB.out)⟩
             ·rw [if_neg c132] at H
              have c132b0 : decide (t317 < 0) = false := decide_eq_false c132
              clear c132
              by_cases c140 : t317 = t315
              ·rw [if_pos c140] at H
               have c140b0 : (t317 == t315) = true := beq_iff_eq.mpr c140
               have c140b1 : (t317 != t315) = false := bne_eq_false_iff_eq.mpr c140
               clear c140
               replace H := Option.bind_eq_some_iff.mp H
               obtain ⟨t318, A1410, H⟩ := H
               replace H : ((laws_toActS.f kj92 l1).bind fun t321 => ((laws_toIntS.f kj92 l3).bind fun t324 => ((impl_CutActs.f kj92 t318 t321 a2 t324).bind fun bt327 => ((laws_eqDisk.f kj92 bt327.1 t275).bind fun t332 => (if t332 = true then (laws_FnExactCutActs.j2 kj92 t315 (bt327.2 != t278) t316) else (laws_FnExactCutActs.j2 kj92 t315 true t316)))))) = some r := H
               have A141 := Aside0.mk A1410
               clear A1410
               replace H := Option.bind_eq_some_iff.mp H
               obtain ⟨t321, A1420, H⟩ := H
               replace H : ((laws_toIntS.f kj92 l3).bind fun t324 => ((impl_CutActs.f kj92 t318 t321 a2 t324).bind fun bt327 => ((laws_eqDisk.f kj92 bt327.1 t275).bind fun t332 => (if t332 = true then (laws_FnExactCutActs.j2 kj92 t315 (bt327.2 != t278) t316) else (laws_FnExactCutActs.j2 kj92 t315 true t316))))) = some r := H
               have A142 := Aside0.mk A1420
               clear A1420
               replace H := Option.bind_eq_some_iff.mp H
               obtain ⟨t324, A1430, H⟩ := H
               replace H : ((impl_CutActs.f kj92 t318 t321 a2 t324).bind fun bt327 => ((laws_eqDisk.f kj92 bt327.1 t275).bind fun t332 => (if t332 = true then (laws_FnExactCutActs.j2 kj92 t315 (bt327.2 != t278) t316) else (laws_FnExactCutActs.j2 kj92 t315 true t316)))) = some r := H
               have A143 := Aside0.mk A1430
               clear A1430
               replace H := Option.bind_eq_some_iff.mp H
               obtain ⟨⟨t327, t330⟩, A1440, H⟩ := H
               replace H : ((laws_eqDisk.f kj92 t327 t275).bind fun t332 => (if t332 = true then (laws_FnExactCutActs.j2 kj92 t315 (t330 != t278) t316) else (laws_FnExactCutActs.j2 kj92 t315 true t316))) = some r := H
               have A144 := Aside0.mk A1440
               clear A1440
               have HC145 := Aside0.mk H
               clear H
               have hnb146 := NB294_263.out; have hnc146 := NB263_294.out; have hnb147 := NB294_279.out; have hnc147 := NB279_294.out; have hnb148 := NB294_283.out; have hnc148 := NB283_294.out
               have hcz149_0 : wc.cell? ⟨gb294, 0, none⟩ = some (.slice Ao57 t290.length co57) := (blk_cell BK294.out 0).trans rfl
               have hfz149_0 := blk_frozen BK294.out 0
               go_upto_region 38 with (first | ((with_reducible refine gate_callee (f := 25) rfl ?_); refine goesL_ (some 108) rfl rfl Try.func25 (by kernel_rfl) rfl #[.agg #[.slice Ao57 t290.length co57], .int .i64 1] rfl (by (try simp only [List.map_toArray, List.map_cons, List.map_nil]); first | done | rfl | (simp only [List.length_drop, List.length_take]; rfl)) ?_; (with_reducible refine (laws_markDisk.calls kj92 (fun k_ => some k_ = (.slice Ao57 t290.length co57 : Value).ownBlock) (.slice Ao57 t290.length co57) t290 1 t315 t316 w _ ?side1 ?side2 A130.out).mono ?_); (case side1 => repeat (first | (with_reducible first | exact HB.out | apply below_alloc | apply pw_below_drewN | apply below_drew1 | refine below_set ?_ GE263.out | refine below_set ?_ GE279.out | refine below_set ?_ GE283.out | refine below_set ?_ GE294.out) | exact HB.out)); (case side2 => exact Kd.R_tight rfl HO_295000.out); rintro e w150 ⟨rfl, hy0, hb, hkp⟩; refine ⟨_, rfl, ?_⟩; have n0_ := Aside0.mk (Kd.R_mono (ok' := fun k_ => some k_ ≠ (.slice Ao46 t309.length co46 : Value).ownBlock ∧ some k_ ≠ (.slice Ao57 t290.length co57 : Value).ownBlock) (Kd.R_keptB (HO_280000.out) hkp (fun k_ hk_ hs_ => (hk_.2) hs_)) (fun k_ hk_ => ⟨hk_.1.1, hk_.1.2⟩)); have n1_ := Aside0.mk (Kd.R_mono (ok' := fun k_ => some k_ ≠ (.slice Ao40 t275.length co40 : Value).ownBlock ∧ some k_ ≠ (.slice Ao57 t290.length co57 : Value).ownBlock) (Kd.R_keptB (HO_284000.out) hkp (fun k_ hk_ hs_ => (hk_.2) hs_)) (fun k_ hk_ => ⟨hk_.1.1, hk_.1.2⟩)); have n2_ := Aside0.mk (Kd.R_reok rfl hy0 (fun k_ e_ => HO_295000.out.1 k_ e_)); have n3_ := Aside0.mk (blk_kept (bb_ BK263) hkp (fun hs_ => (fun e_ => (Kd.R_ne HO_295000.out BK263.out (by decide)) e_) hs_)); have n4_ := Aside0.mk (blk_kept (bb_ BK279) hkp (fun hs_ => (fun e_ => (Kd.R_ne HO_295000.out BK279.out (by decide)) e_) hs_)); have n5_ := Aside0.mk (blk_kept (bb_ BK283) hkp (fun hs_ => (fun e_ => (Kd.R_ne HO_295000.out BK283.out (by decide)) e_) hs_)); have n6_ := Aside0.mk (blk_kept (bb_ BK294) hkp (fun hs_ => (fun e_ => (Kd.R_ne HO_295000.out BK294.out (by decide)) e_) hs_)); have n7_ := Aside0.mk (hb); clear HO_280000; clear HO_284000; clear HO_295000; clear BK263; clear BK279; clear BK283; clear BK294; clear HB; have HO_280000 := n0_; have HO_284000 := n1_; have HO_295000 := n2_; have BK263 := n3_; have BK279 := n4_; have BK283 := n5_; have BK294 := n6_; have HB := n7_; clear n0_ n1_ n2_ n3_ n4_ n5_ n6_ n7_; (try clear hb); (try clear hkp); (try clear hy0); have hcz151_0 : w150.cell? ⟨gb294, 0, none⟩ = some (.slice Ao57 t290.length co57) := (blk_cell BK294.out 0).trans rfl; have hfz151_0 := blk_frozen BK294.out 0) | ((with_reducible refine gate_callee (f := 26) rfl ?_); refine goesL_ (some 111) rfl rfl Try.func26 (by kernel_rfl) rfl #[.agg #[.slice Ao57 t316.length co57], .int .i64 1] rfl (by (try simp only [List.map_toArray, List.map_cons, List.map_nil]); first | done | (rw [show t316.length = t290.length from (Kd.R_reads' HO_295000.out).1.symm] <;> rfl) | rfl | (simp only [List.length_drop, List.length_take]; rfl)) ?_; (with_reducible refine (laws_heldDisk.calls kj92 _ _ t316 1 t317 _ ?side1 ?side2 A131.out).mono ?_); (case side1 => repeat (first | exact (Kd.R_reads' HO_295000.out).2.2 | (with_reducible refine Kd.C_alloc ?_ _) | (with_reducible refine Kd.C_drewN ?_ _) | (with_reducible refine Kd.C_drew ?_))); (case side2 => rw [show t316.length = t290.length from (Kd.R_reads' HO_295000.out).1.symm]; exact (Kd.R_reads' HO_295000.out).2.1); rintro e w152 ⟨rfl, hb⟩; refine ⟨_, rfl, ?_⟩; have n0_ := Aside0.mk (Kd.R_below (rr_ HO_280000) hb); have n1_ := Aside0.mk (Kd.R_below (rr_ HO_284000) hb); have n2_ := Aside0.mk (Kd.R_below (rr_ HO_295000) hb); have n3_ := Aside0.mk (blk_below (bb_ BK263) hb); have n4_ := Aside0.mk (blk_below (bb_ BK279) hb); have n5_ := Aside0.mk (blk_below (bb_ BK283) hb); have n6_ := Aside0.mk (blk_below (bb_ BK294) hb); have n7_ := Aside0.mk (below_step (hh_ HB) hb); clear HO_280000; clear HO_284000; clear HO_295000; clear BK263; clear BK279; clear BK283; clear BK294; clear HB; have HO_280000 := n0_; have HO_284000 := n1_; have HO_295000 := n2_; have BK263 := n3_; have BK279 := n4_; have BK283 := n5_; have BK294 := n6_; have HB := n7_; clear n0_ n1_ n2_ n3_ n4_ n5_ n6_ n7_; (try clear hb); (try clear hb2); (try clear hk); (try clear hi); have hnb153 := NB263_279.out; have hnc153 := NB279_263.out; have hnb154 := NB263_283.out; have hnc154 := NB283_263.out; have hcz155_0 : w152.cell? ⟨gb263, 0, none⟩ = some (.slice A0_0 l0_0.length c0_0) := (blk_cell BK263.out 0).trans rfl; have hfz155_0 := blk_frozen BK263.out 0) | ((with_reducible refine gate_callee (f := 14) rfl ?_); refine goesL_ (some 119) rfl rfl Try.func14 (by kernel_rfl) rfl #[.agg #[.slice A0_0 l0_0.length c0_0]] rfl (by (try simp only [List.map_toArray, List.map_cons, List.map_nil]); first | done | rfl | (simp only [List.length_drop, List.length_take]; rfl)) ?_; (with_reducible refine (laws_toDisk.calls kj92 _ _ l0_0 t318 _ ?side1 ?side2 A141.out).mono ?_); (case side1 => repeat (first | exact (Kd.C_below HR0_0.out HB.out) | (with_reducible refine Kd.C_alloc ?_ _) | (with_reducible refine Kd.C_drewN ?_ _) | (with_reducible refine Kd.C_drew ?_))); (case side2 => exact HC0_0.out); rintro e w156 ⟨v319, rfl, ho0, hb⟩; refine ⟨_, rfl, ?_⟩; have n0_ := Aside0.mk (Kd.R_elder' (rr_ HO_280000) (Kd.R_base ho0) hb); have n1_ := Aside0.mk (Kd.R_elder' (rr_ HO_284000) (Kd.R_base ho0) hb); have n2_ := Aside0.mk (Kd.R_elder' (rr_ HO_295000) (Kd.R_base ho0) hb); have n3_ := Aside0.mk (Kd.R_lower (Kd.R_new' (Kd.R_new' (Kd.R_new' ho0 (Kd.R_lt (rr_ HO_280000))) (Kd.R_lt (rr_ HO_284000))) (Kd.R_lt (rr_ HO_295000))) (below_size (hh_ HB))); have n4_ := Aside0.mk (blk_below (bb_ BK263) hb); have n5_ := Aside0.mk (blk_below (bb_ BK279) hb); have n6_ := Aside0.mk (blk_below (bb_ BK283) hb); have n7_ := Aside0.mk (blk_below (bb_ BK294) hb); have n8_ := Aside0.mk (below_step (hh_ HB) hb); clear HO_280000; clear HO_284000; clear HO_295000; clear BK263; clear BK279; clear BK283; clear BK294; clear HB; have HO_280000 := n0_; have HO_284000 := n1_; have HO_295000 := n2_; have HO320 := n3_; have BK263 := n4_; have BK279 := n5_; have BK283 := n6_; have BK294 := n7_; have HB := n8_; clear n0_ n1_ n2_ n3_ n4_ n5_ n6_ n7_ n8_; (try clear hb); (try clear hb2); (try clear hk); (try clear hi); (try clear ho0)) | ((with_reducible refine gate_callee (f := 29) rfl ?_); refine goesL_ (some 121) rfl rfl Try.func29 (by kernel_rfl) rfl #[.slice A1 l1.length c1] rfl (by (try simp only [List.map_toArray, List.map_cons, List.map_nil]); first | done | rfl | (simp only [List.length_drop, List.length_take]; rfl)) ?_; (with_reducible refine (laws_toActS.calls kj92 _ _ l1 t321 _ ?side1 ?side2 A142.out).mono ?_); (case side1 => repeat (first | exact (Kd.C_below HR1.out HB.out) | (with_reducible refine Kd.C_alloc ?_ _) | (with_reducible refine Kd.C_drewN ?_ _) | (with_reducible refine Kd.C_drew ?_))); (case side2 => exact HC1.out); rintro e w157 ⟨v322, rfl, ho0, hb⟩; refine ⟨_, rfl, ?_⟩; have n0_ := Aside0.mk (Kd.R_below (rr_ HO_280000) hb); have n1_ := Aside0.mk (Kd.R_below (rr_ HO_284000) hb); have n2_ := Aside0.mk (Kd.R_below (rr_ HO_295000) hb); have n3_ := Aside0.mk (Kd.R_below (rr_ HO320) hb); have n4_ := Aside0.mk (Kd.R_lower ho0 (below_size (hh_ HB))); have n5_ := Aside0.mk (blk_below (bb_ BK263) hb); have n6_ := Aside0.mk (blk_below (bb_ BK279) hb); have n7_ := Aside0.mk (blk_below (bb_ BK283) hb); have n8_ := Aside0.mk (blk_below (bb_ BK294) hb); have n9_ := Aside0.mk (below_step (hh_ HB) hb); clear HO_280000; clear HO_284000; clear HO_295000; clear HO320; clear BK263; clear BK279; clear BK283; clear BK294; clear HB; have HO_280000 := n0_; have HO_284000 := n1_; have HO_295000 := n2_; have HO320 := n3_; have HO323 := n4_; have BK263 := n5_; have BK279 := n6_; have BK283 := n7_; have BK294 := n8_; have HB := n9_; clear n0_ n1_ n2_ n3_ n4_ n5_ n6_ n7_ n8_ n9_; (try clear hb); (try clear hb2); (try clear hk); (try clear hi); (try clear ho0)) | ((with_reducible refine gate_callee (f := 34) rfl ?_); refine goesL_ (some 124) rfl rfl Try.func34 (by kernel_rfl) rfl #[.slice A3 l3.length c3] rfl (by (try simp only [List.map_toArray, List.map_cons, List.map_nil]); first | done | rfl | (simp only [List.length_drop, List.length_take]; rfl)) ?_; (with_reducible refine (laws_toIntS.calls kj92 _ _ l3 t324 _ ?side1 ?side2 A143.out).mono ?_); (case side1 => repeat (first | exact (Kd.C_below HR3.out HB.out) | (with_reducible refine Kd.C_alloc ?_ _) | (with_reducible refine Kd.C_drewN ?_ _) | (with_reducible refine Kd.C_drew ?_))); (case side2 => exact HC3.out); rintro e w158 ⟨v325, rfl, ho0, hb⟩; refine ⟨_, rfl, ?_⟩; have n0_ := Aside0.mk (Kd.R_below (rr_ HO_280000) hb); have n1_ := Aside0.mk (Kd.R_below (rr_ HO_284000) hb); have n2_ := Aside0.mk (Kd.R_below (rr_ HO_295000) hb); have n3_ := Aside0.mk (Kd.R_below (rr_ HO320) hb); have n4_ := Aside0.mk (Kd.R_below (rr_ HO323) hb); have n5_ := Aside0.mk (Kd.R_lower ho0 (below_size (hh_ HB))); have n6_ := Aside0.mk (blk_below (bb_ BK263) hb); have n7_ := Aside0.mk (blk_below (bb_ BK279) hb); have n8_ := Aside0.mk (blk_below (bb_ BK283) hb); have n9_ := Aside0.mk (blk_below (bb_ BK294) hb); have n10_ := Aside0.mk (below_step (hh_ HB) hb); clear HO_280000; clear HO_284000; clear HO_295000; clear HO320; clear HO323; clear BK263; clear BK279; clear BK283; clear BK294; clear HB; have HO_280000 := n0_; have HO_284000 := n1_; have HO_295000 := n2_; have HO320 := n3_; have HO323 := n4_; have HO326 := n5_; have BK263 := n6_; have BK279 := n7_; have BK283 := n8_; have BK294 := n9_; have HB := n10_; clear n0_ n1_ n2_ n3_ n4_ n5_ n6_ n7_ n8_ n9_ n10_; (try clear hb); (try clear hb2); (try clear hk); (try clear hi); (try clear ho0); obtain ⟨Ao159, co159, eo159⟩ := Kd.R_slice HO320.out; subst eo159; obtain ⟨Ao160, co160, eo160⟩ := Kd.R_slice HO323.out; subst eo160; obtain ⟨Ao161, co161, eo161⟩ := Kd.R_slice HO326.out; subst eo161) | ((with_reducible refine gate_callee (f := 39) rfl ?_); refine goesL_ (some 125) rfl rfl Try.func39 (by kernel_rfl) rfl #[.agg #[.slice Ao159 t318.length co159], .slice Ao160 t321.length co160, .int .i64 a2, .slice Ao161 t324.length co161] rfl (by (try simp only [List.map_toArray, List.map_cons, List.map_nil]); first | done | rfl | (simp only [List.length_drop, List.length_take]; rfl)) ?_; (with_reducible refine (impl_CutActs.calls kj92 _ _ t318 _ _ t321 a2 _ _ t324 t327 t330 _ ?side1 ?side2 ?side3 ?side4 ?side5 ?side6 A144.out).mono ?_); (case side1 => repeat (first | exact (Kd.R_reads' HO320.out).2.2 | (with_reducible refine Kd.C_alloc ?_ _) | (with_reducible refine Kd.C_drewN ?_ _) | (with_reducible refine Kd.C_drew ?_))); (case side2 => exact (Kd.R_reads' HO320.out).2.1); (case side3 => repeat (first | exact (Kd.R_reads' HO323.out).2.2 | (with_reducible refine Kd.C_alloc ?_ _) | (with_reducible refine Kd.C_drewN ?_ _) | (with_reducible refine Kd.C_drew ?_))); (case side4 => exact (Kd.R_reads' HO323.out).2.1); (case side5 => repeat (first | exact (Kd.R_reads' HO326.out).2.2 | (with_reducible refine Kd.C_alloc ?_ _) | (with_reducible refine Kd.C_drewN ?_ _) | (with_reducible refine Kd.C_drew ?_))); (case side6 => exact (Kd.R_reads' HO326.out).2.1); rintro e w162 ⟨v328, rfl, ho0, hb⟩; refine ⟨_, rfl, ?_⟩; have n0_ := Aside0.mk (Kd.R_elder' (rr_ HO_280000) (Kd.R_base ho0) hb); have n1_ := Aside0.mk (Kd.R_elder' (rr_ HO_284000) (Kd.R_base ho0) hb); have n2_ := Aside0.mk (Kd.R_elder' (rr_ HO_295000) (Kd.R_base ho0) hb); have n3_ := Aside0.mk (Kd.R_elder' (rr_ HO320) (Kd.R_base ho0) hb); have n4_ := Aside0.mk (Kd.R_below (rr_ HO323) hb); have n5_ := Aside0.mk (Kd.R_below (rr_ HO326) hb); have n6_ := Aside0.mk (Kd.R_lower (Kd.R_new' (Kd.R_new' (Kd.R_new' (Kd.R_new' ho0 (Kd.R_lt (rr_ HO_280000))) (Kd.R_lt (rr_ HO_284000))) (Kd.R_lt (rr_ HO_295000))) (Kd.R_lt (rr_ HO320))) (below_size (hh_ HB))); have n7_ := Aside0.mk (blk_below (bb_ BK263) hb); have n8_ := Aside0.mk (blk_below (bb_ BK279) hb); have n9_ := Aside0.mk (blk_below (bb_ BK283) hb); have n10_ := Aside0.mk (blk_below (bb_ BK294) hb); have n11_ := Aside0.mk (below_step (hh_ HB) hb); clear HO_280000; clear HO_284000; clear HO_295000; clear HO320; clear HO323; clear HO326; clear BK263; clear BK279; clear BK283; clear BK294; clear HB; have HO_280000 := n0_; have HO_284000 := n1_; have HO_295000 := n2_; have HO320 := n3_; have HO323 := n4_; have HO326 := n5_; have HO329 := n6_; have BK263 := n7_; have BK279 := n8_; have BK283 := n9_; have BK294 := n10_; have HB := n11_; clear n0_ n1_ n2_ n3_ n4_ n5_ n6_ n7_ n8_ n9_ n10_ n11_; (try clear hb); (try clear hb2); (try clear hk); (try clear hi); (try clear ho0)) | ((with_reducible refine gate_dst (N := 20) rfl ?_); refine box_event ?hg (N := 20) ?hd (cs := #[.slice none 0 0]) (t := 29) ?hr ?_; (case hd => rfl); (case hg => rfl); (case hr => first | (go_simp; done) | (go_simp; rfl)); intro gb331 hg w163 hbox hb; have n0_ := Aside0.mk (Kd.R_below (rr_ HO_280000) hb); have n1_ := Aside0.mk (Kd.R_below (rr_ HO_284000) hb); have n2_ := Aside0.mk (Kd.R_below (rr_ HO_295000) hb); have n3_ := Aside0.mk (Kd.R_below (rr_ HO320) hb); have n4_ := Aside0.mk (Kd.R_below (rr_ HO323) hb); have n5_ := Aside0.mk (Kd.R_below (rr_ HO326) hb); have n6_ := Aside0.mk (Kd.R_below (rr_ HO329) hb); have n7_ := Aside0.mk (blk_below (bb_ BK263) hb); have n8_ := Aside0.mk (blk_below (bb_ BK279) hb); have n9_ := Aside0.mk (blk_below (bb_ BK283) hb); have n10_ := Aside0.mk (blk_below (bb_ BK294) hb); have n11_ := Aside0.mk (below_step (hh_ HB) hb); have n12_ := Aside0.mk (hbox); have n13_ := Aside0.mk ((by rw [hg]; exact (below_size (hh_ HB)) : w.heap.size ≤ gb331)); have n14_ := n13_; have n15_ := Aside0.mk ((by rw [hg]; exact Nat.ne_of_lt (blk_lt (bb_ BK263)) : gb263 ≠ gb331)); have n16_ := Aside0.mk ((by rw [hg]; exact Nat.ne_of_gt (blk_lt (bb_ BK263)) : gb331 ≠ gb263)); have n17_ := Aside0.mk ((by rw [hg]; exact Nat.ne_of_lt (blk_lt (bb_ BK279)) : gb279 ≠ gb331)); have n18_ := Aside0.mk ((by rw [hg]; exact Nat.ne_of_gt (blk_lt (bb_ BK279)) : gb331 ≠ gb279)); have n19_ := Aside0.mk ((by rw [hg]; exact Nat.ne_of_lt (blk_lt (bb_ BK283)) : gb283 ≠ gb331)); have n20_ := Aside0.mk ((by rw [hg]; exact Nat.ne_of_gt (blk_lt (bb_ BK283)) : gb331 ≠ gb283)); have n21_ := Aside0.mk ((by rw [hg]; exact Nat.ne_of_lt (blk_lt (bb_ BK294)) : gb294 ≠ gb331)); have n22_ := Aside0.mk ((by rw [hg]; exact Nat.ne_of_gt (blk_lt (bb_ BK294)) : gb331 ≠ gb294)); clear HO_280000; clear HO_284000; clear HO_295000; clear HO320; clear HO323; clear HO326; clear HO329; clear BK263; clear BK279; clear BK283; clear BK294; clear HB; have HO_280000 := n0_; have HO_284000 := n1_; have HO_295000 := n2_; have HO320 := n3_; have HO323 := n4_; have HO326 := n5_; have HO329 := n6_; have BK263 := n7_; have BK279 := n8_; have BK283 := n9_; have BK294 := n10_; have HB := n11_; have BK331 := n12_; have GW331 := n13_; have GE331 := n14_; have NB263_331 := n15_; have NB331_263 := n16_; have NB279_331 := n17_; have NB331_279 := n18_; have NB283_331 := n19_; have NB331_283 := n20_; have NB294_331 := n21_; have NB331_294 := n22_; clear n0_ n1_ n2_ n3_ n4_ n5_ n6_ n7_ n8_ n9_ n10_ n11_ n12_ n13_ n14_ n15_ n16_ n17_ n18_ n19_ n20_ n21_ n22_; clear hb hbox hg; obtain ⟨Ao164, co164, eo164⟩ := Kd.R_slice HO329.out; subst eo164; have hnb165 := NB331_263.out; have hnc165 := NB263_331.out; have hnb166 := NB331_279.out; have hnc166 := NB279_331.out; have hnb167 := NB331_283.out; have hnc167 := NB283_331.out; have hnb168 := NB331_294.out; have hnc168 := NB294_331.out; have hcz169_0 : w163.cell? ⟨gb331, 0, none⟩ = some (.slice none 0 0) := (blk_cell BK331.out 0).trans rfl; have hfz169_0 := blk_frozen BK331.out 0))
               (try simp only [Act.put, List.setIfInBounds_toArray, List.set_cons_zero, List.set_cons_succ])
               go_cut [136] (fun v136 wc => ∃ (kq : Nat) (x136_144 : Bool), v136 = .bool x136_144 ∧ Aside0 (laws_FnExactCutActs.j2 kq t315 x136_144 t316 = some r) ∧ Aside0 (kq ≤ kj92) ∧ Aside0 (Kd.R k67 67 wc w.heap.size (fun k_ => some k_ ≠ ((.slice Ao46 t309.length co46) : Value).ownBlock ∧ some k_ ≠ ((.slice Ao57 t290.length co57) : Value).ownBlock ∧ some k_ ≠ ((.slice Ao164 t327.length co164) : Value).ownBlock) (.slice Ao40 t275.length co40) t275) ∧ Aside0 (Kd.R k67 67 wc w.heap.size (fun k_ => some k_ ≠ ((.slice Ao40 t275.length co40) : Value).ownBlock ∧ some k_ ≠ ((.slice Ao57 t290.length co57) : Value).ownBlock ∧ some k_ ≠ ((.slice Ao164 t327.length co164) : Value).ownBlock) (.slice Ao46 t309.length co46) t309) ∧ Aside0 (Kd.R k67 67 wc w.heap.size (fun k_ => some k_ ≠ ((.slice Ao40 t275.length co40) : Value).ownBlock ∧ some k_ ≠ ((.slice Ao46 t309.length co46) : Value).ownBlock ∧ some k_ ≠ ((.slice Ao164 t327.length co164) : Value).ownBlock) (.slice Ao57 t290.length co57) t316) ∧ Aside0 (Kd.R k67 67 wc w.heap.size (fun k_ => some k_ ≠ ((.slice Ao40 t275.length co40) : Value).ownBlock ∧ some k_ ≠ ((.slice Ao46 t309.length co46) : Value).ownBlock ∧ some k_ ≠ ((.slice Ao57 t290.length co57) : Value).ownBlock) (.slice Ao164 t327.length co164) t327) ∧ Aside0 (wc.heap[gb263]? = some (.cells #[(.slice A0_0 l0_0.length c0_0)] 24 (0, 0))) ∧ Aside0 (wc.heap[gb279]? = some (.cells #[(.slice Ao40 t275.length co40)] 29 (0, 0))) ∧ Aside0 (wc.heap[gb283]? = some (.cells #[(.slice Ao46 t309.length co46)] 29 (0, 0))) ∧ Aside0 (wc.heap[gb294]? = some (.cells #[(.slice Ao57 t290.length co57)] 29 (0, 0))) ∧ Aside0 (wc.heap[gb331]? = some (.cells #[(.slice Ao164 t327.length co164)] 29 (0, 0))) ∧ Aside0 (Below w.heap.size w wc))
               case first =>
                have H := HC145.out
                clear HC145
                replace H := Option.bind_eq_some_iff.mp H
                obtain ⟨t332, A1700, H⟩ := H
                replace H : (if t332 = true then (laws_FnExactCutActs.j2 kj92 t315 (t330 != t278) t316) else (laws_FnExactCutActs.j2 kj92 t315 true t316)) = some r := H
                have A170 := Aside0.mk A1700
                clear A1700
                by_cases c171 : t332 = true
                ·subst c171
                 have H1 : (laws_FnExactCutActs.j2 kj92 t315 (t330 != t278) t316) = some r := by rw [if_pos rfl] at H; exact H
                 clear H
                 have H := H1
                 clear H1
                 have H' := Aside0.mk H
                 clear H
                 have hnb172 := NB331_263.out; have hnc172 := NB263_331.out; have hnb173 := NB331_279.out; have hnc173 := NB279_331.out; have hnb174 := NB331_283.out; have hnc174 := NB283_331.out; have hnb175 := NB331_294.out; have hnc175 := NB294_331.out
                 have hcz176_0 : w163.cell? ⟨gb331, 0, none⟩ = some (.slice none 0 0) := (blk_cell BK331.out 0).trans rfl
                 have hfz176_0 := blk_frozen BK331.out 0
                 have hnb177 := NB279_263.out; have hnc177 := NB263_279.out; have hnb178 := NB279_283.out; have hnc178 := NB283_279.out; have hnb179 := NB279_294.out; have hnc179 := NB294_279.out
                 have hcz180_0 : w163.cell? ⟨gb279, 0, none⟩ = some (.slice Ao40 t275.length co40) := (blk_cell BK279.out 0).trans rfl
                 have hfz180_0 := blk_frozen BK279.out 0
                 go_wp2_with (first | ((with_reducible refine gate_callee (f := 16) rfl ?_); refine goesL_ (some 130) rfl rfl Try.func16 (by kernel_rfl) rfl #[.agg #[.slice Ao164 t327.length co164], .agg #[.slice Ao40 t275.length co40]] rfl (by (try simp only [List.map_toArray, List.map_cons, List.map_nil]); first | done | rfl | (simp only [List.length_drop, List.length_take]; rfl)) ?_; (with_reducible refine (laws_eqDisk.calls kj92 _ _ t327 _ _ t275 true _ ?side1 ?side2 ?side3 ?side4 A170.out).mono ?_); (case side1 => refine (Kd.R_reads' (e := 67) (base := w.heap.size) (ok := fun k_ => ((((True ∧ some k_ ≠ (.slice Ao40 t275.length co40 : Value).ownBlock) ∧ some k_ ≠ (.slice Ao46 t309.length co46 : Value).ownBlock) ∧ some k_ ≠ (.slice Ao57 t290.length co57 : Value).ownBlock) ∧ some k_ ≠ (.slice Ao159 t318.length co159 : Value).ownBlock)) (n := t327.length) (c := co164) ?_).2.2; exact (by (with_reducible repeat (first | apply Kd.R_alloc | apply Kd.R_drewN | apply Kd.R_drew)); exact (Kd.R_mono (Kd.R_far (p := ⟨gb331, 0, none⟩) (Kd.R_types HO329.out BK331.out (by decide)) (fun _ hk => hk.2) (.slice Ao164 t327.length co164)) (fun _ h_ => h_.1)))); (case side2 => exact (Kd.R_reads' HO329.out).2.1); (case side3 => refine (Kd.R_reads' (e := 67) (base := w.heap.size) (ok := fun k_ => (((some k_ ≠ (.slice Ao46 t309.length co46 : Value).ownBlock ∧ some k_ ≠ (.slice Ao57 t290.length co57 : Value).ownBlock) ∧ some k_ ≠ (.slice Ao159 t318.length co159 : Value).ownBlock) ∧ some k_ ≠ (.slice Ao164 t327.length co164 : Value).ownBlock)) (n := t275.length) (c := co40) ?_).2.2; exact (by (with_reducible repeat (first | apply Kd.R_alloc | apply Kd.R_drewN | apply Kd.R_drew)); exact (Kd.R_mono (Kd.R_far (p := ⟨gb331, 0, none⟩) (Kd.R_types HO_280000.out BK331.out (by decide)) (fun _ hk => hk.2) (.slice Ao164 t327.length co164)) (fun _ h_ => h_.1)))); (case side4 => exact (Kd.R_reads' HO_280000.out).2.1); rintro e w181 ⟨rfl, hb⟩; refine ⟨_, rfl, ?_⟩; have n0_ := Aside0.mk (Kd.R_below (by (with_reducible repeat (first | apply Kd.R_alloc | apply Kd.R_drewN | apply Kd.R_drew)); exact (Kd.R_mono (Kd.R_far (p := ⟨gb331, 0, none⟩) (Kd.R_types HO_280000.out BK331.out (by decide)) (fun _ hk => hk.2) (.slice Ao164 t327.length co164)) (fun _ h_ => h_.1))) hb); have n1_ := Aside0.mk (Kd.R_below (by (with_reducible repeat (first | apply Kd.R_alloc | apply Kd.R_drewN | apply Kd.R_drew)); exact (Kd.R_mono (Kd.R_far (p := ⟨gb331, 0, none⟩) (Kd.R_types HO_284000.out BK331.out (by decide)) (fun _ hk => hk.2) (.slice Ao164 t327.length co164)) (fun _ h_ => h_.1))) hb); have n2_ := Aside0.mk (Kd.R_below (by (with_reducible repeat (first | apply Kd.R_alloc | apply Kd.R_drewN | apply Kd.R_drew)); exact (Kd.R_mono (Kd.R_far (p := ⟨gb331, 0, none⟩) (Kd.R_types HO_295000.out BK331.out (by decide)) (fun _ hk => hk.2) (.slice Ao164 t327.length co164)) (fun _ h_ => h_.1))) hb); have n3_ := Aside0.mk (Kd.R_below (by (with_reducible repeat (first | apply Kd.R_alloc | apply Kd.R_drewN | apply Kd.R_drew)); exact (Kd.R_mono (Kd.R_far (p := ⟨gb331, 0, none⟩) (Kd.R_types HO320.out BK331.out (by decide)) (fun _ hk => hk.2) (.slice Ao164 t327.length co164)) (fun _ h_ => h_.1))) hb); have n4_ := Aside0.mk (Kd.R_below (by (with_reducible repeat (first | apply Kd.R_alloc | apply Kd.R_drewN | apply Kd.R_drew)); exact (Kd.R_mono (Kd.R_far (p := ⟨gb331, 0, none⟩) (Kd.R_types HO323.out BK331.out (by decide)) (fun _ hk => hk.2) (.slice Ao164 t327.length co164)) (fun _ h_ => h_.1))) hb); have n5_ := Aside0.mk (Kd.R_below (by (with_reducible repeat (first | apply Kd.R_alloc | apply Kd.R_drewN | apply Kd.R_drew)); exact (Kd.R_mono (Kd.R_far (p := ⟨gb331, 0, none⟩) (Kd.R_types HO326.out BK331.out (by decide)) (fun _ hk => hk.2) (.slice Ao164 t327.length co164)) (fun _ h_ => h_.1))) hb); have n6_ := Aside0.mk (Kd.R_below (by (with_reducible repeat (first | apply Kd.R_alloc | apply Kd.R_drewN | apply Kd.R_drew)); exact (Kd.R_mono (Kd.R_far (p := ⟨gb331, 0, none⟩) (Kd.R_types HO329.out BK331.out (by decide)) (fun _ hk => hk.2) (.slice Ao164 t327.length co164)) (fun _ h_ => h_.1))) hb); have n7_ := Aside0.mk (blk_below (g := gb263) (o := .cells #[.slice A0_0 l0_0.length c0_0] 24 (0, 0)) (by (with_reducible repeat (first | refine blk_drewN ?_ _ | refine blk_drew ?_ | refine blk_alloc ?_ _)); refine blk_far ?_ NB263_331.out _; exact bb_ BK263) hb); have n8_ := Aside0.mk (blk_below (g := gb279) (o := .cells #[.slice Ao40 t275.length co40] 29 (0, 0)) (by (with_reducible repeat (first | refine blk_drewN ?_ _ | refine blk_drew ?_ | refine blk_alloc ?_ _)); refine blk_far ?_ NB279_331.out _; exact bb_ BK279) hb); have n9_ := Aside0.mk (blk_below (g := gb283) (o := .cells #[.slice Ao46 t309.length co46] 29 (0, 0)) (by (with_reducible repeat (first | refine blk_drewN ?_ _ | refine blk_drew ?_ | refine blk_alloc ?_ _)); refine blk_far ?_ NB283_331.out _; exact bb_ BK283) hb); have n10_ := Aside0.mk (blk_below (g := gb294) (o := .cells #[.slice Ao57 t290.length co57] 29 (0, 0)) (by (with_reducible repeat (first | refine blk_drewN ?_ _ | refine blk_drew ?_ | refine blk_alloc ?_ _)); refine blk_far ?_ NB294_331.out _; exact bb_ BK294) hb); have n11_ := Aside0.mk (blk_below (g := gb331) (o := .cells #[.slice Ao164 t327.length co164] 29 (0, 0)) (by (with_reducible repeat (first | refine blk_drewN ?_ _ | refine blk_drew ?_ | refine blk_alloc ?_ _)); refine blk_put (cs := #[.slice none 0 0]) ?_ 0 _ rfl; exact bb_ BK331) hb); have n12_ := Aside0.mk (below_step (hh_ HB) hb); clear HO_280000; clear HO_284000; clear HO_295000; clear HO320; clear HO323; clear HO326; clear HO329; clear BK263; clear BK279; clear BK283; clear BK294; clear BK331; clear HB; have HO_280000 := n0_; have HO_284000 := n1_; have HO_295000 := n2_; have HO320 := n3_; have HO323 := n4_; have HO326 := n5_; have HO329 := n6_; have BK263 := n7_; have BK279 := n8_; have BK283 := n9_; have BK294 := n10_; have BK331 := n11_; have HB := n12_; clear n0_ n1_ n2_ n3_ n4_ n5_ n6_ n7_ n8_ n9_ n10_ n11_ n12_; (try clear hb); (try clear hb2); (try clear hk); (try clear hi)))
                 go_meet
                 case rel => exact ⟨_, ((t330 != t278)), (by first | rfl | (simp; done) | (simp [*]; done)), H', ⟨by have := HJ25.out; have := HJ92.out; first | omega | exact Nat.le_refl _⟩, ⟨by (try simp only [hl284000_92]); (with_reducible repeat (first | apply Kd.R_alloc | apply Kd.R_drewN | apply Kd.R_drew)); exact Kd.R_mono HO_280000.out (fun _ hk => ⟨hk.1.1.1, ⟨hk.1.1.2, hk.2⟩⟩)⟩, ⟨by (try simp only [hl284000_92]); (with_reducible repeat (first | apply Kd.R_alloc | apply Kd.R_drewN | apply Kd.R_drew)); exact Kd.R_mono HO_284000.out (fun _ hk => ⟨hk.1.1.1, ⟨hk.1.1.2, hk.2⟩⟩)⟩, ⟨by (try simp only [hl284000_92]); (with_reducible repeat (first | apply Kd.R_alloc | apply Kd.R_drewN | apply Kd.R_drew)); exact Kd.R_mono HO_295000.out (fun _ hk => ⟨hk.1.1.1, ⟨hk.1.1.2, hk.2⟩⟩)⟩, ⟨by (try simp only [hl284000_92]); (with_reducible repeat (first | apply Kd.R_alloc | apply Kd.R_drewN | apply Kd.R_drew)); exact Kd.R_mono HO329.out (fun _ hk => ⟨hk.1.1.1.2, ⟨hk.1.1.2, hk.1.2⟩⟩)⟩, ⟨by (try simp only [hl284000_92]); (with_reducible repeat (first | refine blk_drewN ?_ _ | refine blk_drew ?_ | refine blk_alloc ?_ _)); exact BK263.out⟩, ⟨by (try simp only [hl284000_92]); (with_reducible repeat (first | refine blk_drewN ?_ _ | refine blk_drew ?_ | refine blk_alloc ?_ _)); exact BK279.out⟩, ⟨by (try simp only [hl284000_92]); (with_reducible repeat (first | refine blk_drewN ?_ _ | refine blk_drew ?_ | refine blk_alloc ?_ _)); exact BK283.out⟩, ⟨by (try simp only [hl284000_92]); (with_reducible repeat (first | refine blk_drewN ?_ _ | refine blk_drew ?_ | refine blk_alloc ?_ _)); exact BK294.out⟩, ⟨by (try simp only [hl284000_92]); (with_reducible repeat (first | refine blk_drewN ?_ _ | refine blk_drew ?_ | refine blk_alloc ?_ _)); exact BK331.out⟩, ⟨hh_ HB⟩⟩
                ·replace c171 := Bool.eq_false_iff.mpr c171
                 subst c171
                 have H1 : (laws_FnExactCutActs.j2 kj92 t315 true t316) = some r := by rw [if_neg (show ¬ (false = true) by decide)] at H; exact H
                 clear H
                 have H := H1
                 clear H1
                 exact absurd H (by rw [hr_.out]; cases kj92 <;> simp [laws_FnExactCutActs.j2])
               case rest =>
                clear HC145
                try clear c1
                try clear c2
                try clear p2
                try clear c3
                try clear c4
                try clear c5
                try clear c5b0
                try clear c5b1
                try clear c6
                try clear c7
                try clear c8
                try clear c8b0
                try clear c9
                try clear c10
                try clear c11
                try clear c12
                try clear c13
                try clear c13b0
                try clear c14
                try clear c15
                try clear c16
                try clear c17
                try clear c18
                try clear c25
                try clear c26
                try clear c27
                try clear c29
                try clear c31
                try clear c32
                try clear c34
                try clear c36
                try clear c37
                try clear c38
                try clear c39
                try clear c41
                try clear c47
                try clear c48
                try clear c58
                try clear c59
                try clear c60
                try clear c63
                try clear c64
                try clear c65
                try clear c66
                try clear c68
                try clear c69
                try clear c72
                try clear c73
                try clear c74
                try clear c76
                try clear c77
                try clear c80
                try clear c83
                try clear c86
                try clear c89
                try clear c103
                try clear c104
                try clear c105
                try clear c110
                try clear c110b0
                try clear c112
                try clear c113
                try clear c114
                try clear c115
                try clear c117
                try clear c118
                try clear c121
                try clear c122
                try clear c123
                try clear c125
                try clear c126
                try clear c129
                try clear c132
                try clear c132b0
                try clear c133
                try clear c134
                try clear c135
                try clear c140
                try clear c140b0
                try clear c140b1
                try clear c146
                try clear c147
                try clear c148
                try clear c153
                try clear c154
                try clear c165
                try clear c166
                try clear c167
                try clear c168
                try clear c171
                try clear c172
                try clear c173
                try clear c174
                try clear c175
                try clear c177
                try clear c178
                try clear c179
                try clear c182
                try clear c183
                try clear c184
                try clear c185
                try clear c187
                try clear c188
                try clear c189
                try clear hcz106_0
                try clear hcz10_0
                try clear hcz116_0
                try clear hcz119_0
                try clear hcz124_0
                try clear hcz127_0
                try clear hcz136_0
                try clear hcz138_0
                try clear hcz149_0
                try clear hcz151_0
                try clear hcz155_0
                try clear hcz15_0
                try clear hcz169_0
                try clear hcz176_0
                try clear hcz180_0
                try clear hcz186_0
                try clear hcz190_0
                try clear hcz28_0
                try clear hcz31_0
                try clear hcz42_0
                try clear hcz43_0
                try clear hcz49_0
                try clear hcz52_0
                try clear hcz61_0
                try clear hcz67_0
                try clear hcz70_0
                try clear hcz75_0
                try clear hcz78_0
                try clear hfz106_0
                try clear hfz10_0
                try clear hfz116_0
                try clear hfz119_0
                try clear hfz124_0
                try clear hfz127_0
                try clear hfz136_0
                try clear hfz138_0
                try clear hfz149_0
                try clear hfz151_0
                try clear hfz155_0
                try clear hfz15_0
                try clear hfz169_0
                try clear hfz176_0
                try clear hfz180_0
                try clear hfz186_0
                try clear hfz190_0
                try clear hfz28_0
                try clear hfz31_0
                try clear hfz42_0
                try clear hfz43_0
                try clear hfz49_0
                try clear hfz52_0
                try clear hfz61_0
                try clear hfz67_0
                try clear hfz70_0
                try clear hfz75_0
                try clear hfz78_0
                try clear p2
                obtain ⟨kq, x136_144, rfl, HA, HJ144, HO_280000, HO_284000, HO_295000, HO_332000, BK263, BK279, BK283, BK294, BK331, HB⟩ := hcut
                have hl295000_144 := (Kd.R_reads' HO_295000.out).1
                rw [hl295000_144] at HO_295000
                (try simp only [hl295000_144])
                (try simp only [hl295000_144] at BK263)
                (try simp only [hl295000_144] at BK279)
                (try simp only [hl295000_144] at BK283)
                (try simp only [hl295000_144] at BK294)
                (try simp only [hl295000_144] at BK331)
                (try simp only [hl295000_144] at HO_280000)
                (try simp only [hl295000_144] at HO_284000)
                (try simp only [hl295000_144] at HO_332000)
                cases kq with
                | zero => exact absurd HA.out (by simp [laws_FnExactCutActs.j2])
                | succ kj144 =>
                 have H := HA.out
                 clear HA
                 simp only [laws_FnExactCutActs.j2] at H
                 by_cases c192 : x136_144 = true
                 ·subst c192
                  have H1 : (some false) = some r := by rw [if_pos rfl] at H; exact H
                  clear H
                  have H := H1
                  clear H1
                  obtain rfl := Option.some.inj H
                  exact absurd hr_.out (by decide)
                 ·replace c192 := Bool.eq_false_iff.mpr c192
                  subst c192
                  have H1 : ((laws_heldDisk.f kj144 t316 1).bind fun t333 => (if t333 < 0 then (some false) else (if t333 = t315 then (some true) else (some false)))) = some r := by rw [if_neg (show ¬ (false = true) by decide)] at H; exact H
                  clear H
                  have H := H1
                  clear H1
                  replace H := Option.bind_eq_some_iff.mp H
                  obtain ⟨t333, A1930, H⟩ := H
                  replace H : (if t333 < 0 then (some false) else (if t333 = t315 then (some true) else (some false))) = some r := H
                  have A193 := Aside0.mk A1930
                  clear A1930
                  by_cases c194 : t333 < 0
                  ·rw [if_pos c194] at H
                   have c194b0 : decide (t333 < 0) = true := decide_eq_true c194
                   clear c194
                   obtain rfl := Option.some.inj H
                   have hnb195 := NB294_263.out; have hnc195 := NB263_294.out; have hnb196 := NB294_279.out; have hnc196 := NB279_294.out; have hnb197 := NB294_283.out; have hnc197 := NB283_294.out; have hnb198 := NB294_331.out; have hnc198 := NB331_294.out
                   have hcz199_0 : wc.cell? ⟨gb294, 0, none⟩ = some (.slice Ao57 t316.length co57) := (blk_cell BK294.out 0).trans rfl
                   have hfz199_0 := blk_frozen BK294.out 0
                   go_wp2_with (first | ((with_reducible refine gate_callee (f := 26) rfl ?_); refine goesL_ (some 139) rfl rfl Try.func26 (by kernel_rfl) rfl #[.agg #[.slice Ao57 t316.length co57], .int .i64 1] rfl (by (try simp only [List.map_toArray, List.map_cons, List.map_nil]); first | done | rfl | (simp only [List.length_drop, List.length_take]; rfl)) ?_; (with_reducible refine (laws_heldDisk.calls kj144 _ _ t316 1 t333 _ ?side1 ?side2 A193.out).mono ?_); (case side1 => repeat (first | exact (Kd.R_reads' HO_295000.out).2.2 | (with_reducible refine Kd.C_alloc ?_ _) | (with_reducible refine Kd.C_drewN ?_ _) | (with_reducible refine Kd.C_drew ?_))); (case side2 => exact (Kd.R_reads' HO_295000.out).2.1); rintro e w200 ⟨rfl, hb⟩; refine ⟨_, rfl, ?_⟩; have n0_ := Aside0.mk (Kd.R_below (rr_ HO_280000) hb); have n1_ := Aside0.mk (Kd.R_below (rr_ HO_284000) hb); have n2_ := Aside0.mk (Kd.R_below (rr_ HO_295000) hb); have n3_ := Aside0.mk (Kd.R_below (rr_ HO_332000) hb); have n4_ := Aside0.mk (blk_below (bb_ BK263) hb); have n5_ := Aside0.mk (blk_below (bb_ BK279) hb); have n6_ := Aside0.mk (blk_below (bb_ BK283) hb); have n7_ := Aside0.mk (blk_below (bb_ BK294) hb); have n8_ := Aside0.mk (blk_below (bb_ BK331) hb); have n9_ := Aside0.mk (below_step (hh_ HB) hb); clear HO_280000; clear HO_284000; clear HO_295000; clear HO_332000; clear BK263; clear BK279; clear BK283; clear BK294; clear BK331; clear HB; have HO_280000 := n0_; have HO_284000 := n1_; have HO_295000 := n2_; have HO_332000 := n3_; have BK263 := n4_; have BK279 := n5_; have BK283 := n6_; have BK294 := n7_; have BK331 := n8_; have HB := n9_; clear n0_ n1_ n2_ n3_ n4_ n5_ n6_ n7_ n8_ n9_; (try clear hb); (try clear hb2); (try clear hk); (try clear hi)))
                   go_ret
                   exact ⟨by first | rfl | (simp [errW_none, errW_some] <;> rfl) | (simp [*, errW_none, errW_some] <;> rfl), by repeat (first | (with_reducible first | exact HB.out | apply below_alloc | apply pw_below_drewN | apply below_drew1 | refine below_set ?_ GE263.out | refine below_set ?_ GE279.out | refine below_set ?_ GE283.out | refine below_set ?_ GE294.out | refine below_set ?_ GE331.out) | exact HB.out)⟩
                  ·rw [if_neg c194] at H
                   have c194b0 : decide (t333 < 0) = false := decide_eq_false c194
                   clear c194
                   by_cases c201 : t333 = t315
                   ·rw [if_pos c201] at H
                    have c201b0 : (t333 == t315) = true := beq_iff_eq.mpr c201
                    have c201b1 : (t333 != t315) = false := bne_eq_false_iff_eq.mpr c201
                    clear c201
                    obtain rfl := Option.some.inj H
                    have hnb202 := NB294_263.out; have hnc202 := NB263_294.out; have hnb203 := NB294_279.out; have hnc203 := NB279_294.out; have hnb204 := NB294_283.out; have hnc204 := NB283_294.out; have hnb205 := NB294_331.out; have hnc205 := NB331_294.out
                    have hcz206_0 : wc.cell? ⟨gb294, 0, none⟩ = some (.slice Ao57 t316.length co57) := (blk_cell BK294.out 0).trans rfl
                    have hfz206_0 := blk_frozen BK294.out 0
                    go_wp2_with (first | ((with_reducible refine gate_callee (f := 26) rfl ?_); refine goesL_ (some 139) rfl rfl Try.func26 (by kernel_rfl) rfl #[.agg #[.slice Ao57 t316.length co57], .int .i64 1] rfl (by (try simp only [List.map_toArray, List.map_cons, List.map_nil]); first | done | rfl | (simp only [List.length_drop, List.length_take]; rfl)) ?_; (with_reducible refine (laws_heldDisk.calls kj144 _ _ t316 1 t333 _ ?side1 ?side2 A193.out).mono ?_); (case side1 => repeat (first | exact (Kd.R_reads' HO_295000.out).2.2 | (with_reducible refine Kd.C_alloc ?_ _) | (with_reducible refine Kd.C_drewN ?_ _) | (with_reducible refine Kd.C_drew ?_))); (case side2 => exact (Kd.R_reads' HO_295000.out).2.1); rintro e w207 ⟨rfl, hb⟩; refine ⟨_, rfl, ?_⟩; have n0_ := Aside0.mk (Kd.R_below (rr_ HO_280000) hb); have n1_ := Aside0.mk (Kd.R_below (rr_ HO_284000) hb); have n2_ := Aside0.mk (Kd.R_below (rr_ HO_295000) hb); have n3_ := Aside0.mk (Kd.R_below (rr_ HO_332000) hb); have n4_ := Aside0.mk (blk_below (bb_ BK263) hb); have n5_ := Aside0.mk (blk_below (bb_ BK279) hb); have n6_ := Aside0.mk (blk_below (bb_ BK283) hb); have n7_ := Aside0.mk (blk_below (bb_ BK294) hb); have n8_ := Aside0.mk (blk_below (bb_ BK331) hb); have n9_ := Aside0.mk (below_step (hh_ HB) hb); clear HO_280000; clear HO_284000; clear HO_295000; clear HO_332000; clear BK263; clear BK279; clear BK283; clear BK294; clear BK331; clear HB; have HO_280000 := n0_; have HO_284000 := n1_; have HO_295000 := n2_; have HO_332000 := n3_; have BK263 := n4_; have BK279 := n5_; have BK283 := n6_; have BK294 := n7_; have BK331 := n8_; have HB := n9_; clear n0_ n1_ n2_ n3_ n4_ n5_ n6_ n7_ n8_ n9_; (try clear hb); (try clear hb2); (try clear hk); (try clear hi)))
                    go_ret
                    exact ⟨by first | rfl | (simp [errW_none, errW_some] <;> rfl) | (simp [*, errW_none, errW_some] <;> rfl), by repeat (first | (with_reducible first | exact HB.out | apply below_alloc | apply pw_below_drewN | apply below_drew1 | refine below_set ?_ GE263.out | refine below_set ?_ GE279.out | refine below_set ?_ GE283.out | refine below_set ?_ GE294.out | refine below_set ?_ GE331.out) | exact HB.out)⟩
                   ·rw [if_neg c201] at H
                    have c201b0 : (t333 == t315) = false := beq_eq_false_iff_ne.mpr c201
                    have c201b1 : (t333 != t315) = true := bne_iff_ne.mpr c201
                    obtain rfl := Option.some.inj H
                    exact absurd hr_.out (by decide)
              ·rw [if_neg c140] at H
               have c140b0 : (t317 == t315) = false := beq_eq_false_iff_ne.mpr c140
               have c140b1 : (t317 != t315) = true := bne_iff_ne.mpr c140
               obtain rfl := Option.some.inj H
               exact absurd hr_.out (by decide)
         ·replace c89 := Bool.eq_false_iff.mpr c89
          subst c89
          have H1 : (some false) = some r := by rw [if_neg (show ¬ (false = true) by decide)] at H; exact H
          clear H
          have H := H1
          clear H1
          obtain rfl := Option.some.inj H
          exact absurd hr_.out (by decide)
        ·replace c86 := Bool.eq_false_iff.mpr c86
         subst c86
         have H1 : (some false) = some r := by rw [if_neg (show ¬ (false = true) by decide)] at H; exact H
         clear H
         have H := H1
         clear H1
         obtain rfl := Option.some.inj H
         exact absurd hr_.out (by decide)
       ·replace c83 := Bool.eq_false_iff.mpr c83
        subst c83
        have H1 : (some false) = some r := by rw [if_neg (show ¬ (false = true) by decide)] at H; exact H
        clear H
        have H := H1
        clear H1
        obtain rfl := Option.some.inj H
        exact absurd hr_.out (by decide)
/-- what is known of an element that came in -/
def good96 (x : S96) : Prop := x.f0.size ≤ 9223372036854775807 ∧ x.f1.size ≤ 9223372036854775807 ∧ (Lit.int .i64 x.f2).wf = true
/-- what is known of an element that came in -/
def good37 (x : S37) : Prop := (Lit.int .i64 x.f0).wf = true ∧ x.f1.size ≤ 9223372036854775807 ∧ x.f2.size ≤ 9223372036854775807 ∧ x.f3.size ≤ 9223372036854775807

/-- The pure statement of laws_FnExactCutActs. -/
def laws_FnExactCutActs.Pure : Prop := ∀ (l0_0 : List (S96)) (l1 : List (S37)) (a2 : Int) (l3 : List Int), l0_0.length ≤ 9223372036854775807 → (∀ x ∈ l0_0, good96 x) → l1.length ≤ 9223372036854775807 → (∀ x ∈ l1, good37 x) → (Lit.int .i64 a2).wf = true → l3.length * 8 ≤ 140737488351232 → (∀ x ∈ l3, (Lit.int .i64 x).wf = true) → ∃ k, laws_FnExactCutActs.f k l0_0 l1 a2 l3 = some true

end Go.Proofs.Yteghgeanbglmoaa.PFnExactCutActs
