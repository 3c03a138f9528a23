-- a text of this session's program wip/hyb.py (over the kit's print), out of the translation
import Derived.Test.YteghgeanbglmoaaPFnExactCutActsx0
import Derived.Test.YteghgeanbglmoaaDkFnExactCutActsZ
import Derived.Test.YteghgeanbglmoaaDkFnExactCutActsI
import Derived.Test.YteghgeanbglmoaaDkFnExactCutActsL
import Derived.Test.YteghgeanbglmoaaPFnExactCutActsx6
import Derived.Test.YteghgeanbglmoaaPFnExactCutActsx7
namespace Go.Proofs.Yteghgeanbglmoaa.PFnExactCutActs
open Go.RowKit Go.Proofs.YteghgeanbglmoaaW.PrintWords Go.Proofs.YteghgeanbglmoaaW.PrintLast Go.Proofs.YteghgeanbglmoaaW.PrintMore
attribute [local go_sem] max2_int min2_int max_two min_two max_three min_three max_four min_four   -- for this text's walks alone
set_option linter.unusedVariables false
set_option linter.unusedSimpArgs false

/-! ### spec_l01In: function 49 -/
def spec_l01In.f (a0 : Int) (a1 : Int) (a2 : Int) : Option (Bool) := if a0 ≥ a1 then (some (decide (a0 ≤ a2))) else (some false)
set_option maxHeartbeats 8000000 in
set_option maxRecDepth 100000 in
theorem spec_l01In.calls (a0 : Int) (a1 : Int) (a2 : Int) (r : Bool) (w : World) (h : spec_l01In.f a0 a1 a2 = some r) :
  Calls Try.prog 49 #[.int .i64 a0, .int .i64 a1, .int .i64 a2] w fun e w' => e = .returned (.bool r) ∧ Drawn0 w w' := by
 have H : (if a0 ≥ a1 then (some (decide (a0 ≤ a2))) else (some false)) = some r := h
 clear h
 by_cases c4 : a0 ≥ a1
 ·rw [if_pos c4] at H
  have c4b0 : decide (a1 ≤ a0) = true := decide_eq_true c4
  clear c4
  obtain rfl := Option.some.inj H
  go_enter Try.func49, Try.ntmps49
  go_wp2
  go_ret
  exact ⟨by first | rfl | (simp; done) | (simp [*]; done), by repeat (first | exact Drawn0.refl _ | apply Drawn0.step)⟩
 ·rw [if_neg c4] at H
  have c4b0 : decide (a1 ≤ a0) = false := decide_eq_false c4
  clear c4
  obtain rfl := Option.some.inj H
  go_enter Try.func49, Try.ntmps49
  go_wp2
  go_ret
  exact ⟨by first | rfl | (simp; done) | (simp [*]; done), by repeat (first | exact Drawn0.refl _ | apply Drawn0.step)⟩

/-! ### spec_CutActs: function 38 -/
def spec_CutActs.f (k : Nat) (l0_0 : List (S67)) (l1 : List (S41)) (a2 : Int) (l3 : List Int) : Option ((List (S67)) × Bool) := (spec_l01In.f a2 0 (l1.length : Int)).bind fun t220 => (if t220 = true then (if 0 ≤ a2 then (if a2 ≤ (l1.length : Int) then ((spec_DoActs.f k l0_0 (l1.take (a2 : Int).toNat)).bind fun bt225 => (if bt225.2 < a2 then (some (([] : List (S67)), false)) else ((spec_LoseDisk.f k bt225.1 l3).bind fun bt230 => (some (bt230.1, bt230.2))))) else (none)) else (none)) else (some (([] : List (S67)), false)))
theorem spec_CutActs.mono : ∀ a0 a1 a2 a3 k, LeO (spec_CutActs.f k a0 a1 a2 a3) (spec_CutActs.f (k + 1) a0 a1 a2 a3) := by
 intro a0 a1 a2 a3 k
 unfold spec_CutActs.f
 repeat' first
   | (with_reducible exact spec_DoActs.mono _ _ _)
   | (with_reducible exact spec_LoseDisk.mono _ _ _)
   | (with_reducible exact LeO.refl _)
   | (with_reducible exact LeO.none _)
   | (with_reducible refine LeO.ite ?_ ?_)
   | (with_reducible refine LeO.bind ?_ (fun _ => ?_))
   | exact spec_DoActs.mono _ _ _
   | exact spec_LoseDisk.mono _ _ _
   | exact LeO.none _
   | refine LeO.ite ?_ ?_
   | refine LeO.bind ?_ (fun _ => ?_)
def spec_CutActs.T3 : Bool × List (List Nat × List Nat) := (true, [([], []), ([], []), ([], []), ([1, 2], [1, 2]), ([0, 3], [0, 3]), ([4], [4]), ([5], [5]), ([5], [5]), ([], []), ([8, 6, 4, 0, 1, 2, 3, 4, 5, 6, 8], [6, 8]), ([7, 9, 0, 1, 2, 3, 4, 5, 6, 7, 8, 9], [7])])
def spec_CutActs.B3 : List Nat := [0, 0, 0, 6, 15, 31, 63, 63, 0, 383, 1023]
theorem spec_CutActs.tab3 : rtab .any (opsOf Try.f38 3) = spec_CutActs.T3 := by kernel_rfl
theorem spec_CutActs.bits3 : waitsOk spec_CutActs.T3.2 spec_CutActs.B3 = true := by kernel_rfl
set_option maxHeartbeats 8000000 in
set_option maxRecDepth 100000 in
theorem spec_CutActs.calls (k : Nat) (A0_0 : Option Addr) (c0_0 : Nat) (l0_0 : List (S67)) (A1 : Option Addr) (c1 : Nat) (l1 : List (S41)) (a2 : Int) (A3 : Option Addr) (c3 : Nat) (l3 : List Int) (r1 : List (S67)) (r2 : Bool) (w : World) (hr0_0 : Kd.C k67 w A0_0 l0_0.length l0_0) (hc0_0 : l0_0.length ≤ c0_0) (hr1 : Kd.C k41 w A1 l1.length l1) (hc1 : l1.length ≤ c1) (hr3 : Kd.C (Kd.int .i64) w A3 l3.length l3) (hc3 : l3.length ≤ c3) (h : spec_CutActs.f k l0_0 l1 a2 l3 = some (r1, r2)) :
  Calls Try.prog 38 #[.agg #[.slice A0_0 l0_0.length c0_0], .slice A1 l1.length c1, .int .i64 a2, .slice A3 l3.length c3] w fun e w' => ∃ v0_ : Value, e = .returned (.tuple #[.agg #[v0_], .bool r2]) ∧ Kd.R k67 67 w' w.heap.size (fun _ => True) v0_ r1 ∧ Below w.heap.size w w' := by
 have hu29 := Try.underlying29
 have HR0_0 := Aside0.mk hr0_0
 have HC0_0 := Aside0.mk hc0_0
 clear hr0_0 hc0_0
 have HR1 := Aside0.mk hr1
 have HC1 := Aside0.mk hc1
 clear hr1 hc1
 have HR3 := Aside0.mk hr3
 have HC3 := Aside0.mk hc3
 clear hr3 hc3
 have HB := Aside0.mk (Below.refl w.heap.size w)
 have H : ((spec_l01In.f a2 0 (l1.length : Int)).bind fun t220 => (if t220 = true then (if 0 ≤ a2 then (if a2 ≤ (l1.length : Int) then ((spec_DoActs.f k l0_0 (l1.take (a2 : Int).toNat)).bind fun bt225 => (if bt225.2 < a2 then (some (([] : List (S67)), false)) else ((spec_LoseDisk.f k bt225.1 l3).bind fun bt230 => (some (bt230.1, bt230.2))))) else (none)) else (none)) else (some (([] : List (S67)), false)))) = some (r1, r2) := h
 clear h
 replace H := Option.bind_eq_some_iff.mp H
 obtain ⟨t220, A50, H⟩ := H
 replace H : (if t220 = true then (if 0 ≤ a2 then (if a2 ≤ (l1.length : Int) then ((spec_DoActs.f k l0_0 (l1.take (a2 : Int).toNat)).bind fun bt225 => (if bt225.2 < a2 then (some (([] : List (S67)), false)) else ((spec_LoseDisk.f k bt225.1 l3).bind fun bt230 => (some (bt230.1, bt230.2))))) else (none)) else (none)) else (some (([] : List (S67)), false))) = some (r1, r2) := H
 have A5 := Aside0.mk A50
 clear A50
 by_cases c6 : t220 = true
 ·subst c6
  have H1 : (if 0 ≤ a2 then (if a2 ≤ (l1.length : Int) then ((spec_DoActs.f k l0_0 (l1.take (a2 : Int).toNat)).bind fun bt225 => (if bt225.2 < a2 then (some (([] : List (S67)), false)) else ((spec_LoseDisk.f k bt225.1 l3).bind fun bt230 => (some (bt230.1, bt230.2))))) else (none)) else (none)) = some (r1, r2) := by rw [if_pos rfl] at H; exact H
  clear H
  have H := H1
  clear H1
  by_cases c7 : 0 ≤ a2
  ·rw [if_pos c7] at H
   have c7b0 := eq_true c7
   have c7b1 : decide (0 ≤ a2) = true := decide_eq_true c7
   clear c7
   by_cases c8 : a2 ≤ (l1.length : Int)
   ·rw [if_pos c8] at H
    have c8b0 := eq_true c8
    have c8b1 : decide (a2 ≤ (l1.length : Int)) = true := decide_eq_true c8
    clear c8
    obtain ⟨y221, hy221⟩ : ∃ y_ : List (S41), y_ = (l1.take (a2 : Int).toNat) := ⟨_, rfl⟩
    replace H : ((spec_DoActs.f k l0_0 y221).bind fun bt225 => (if bt225.2 < a2 then (some (([] : List (S67)), false)) else ((spec_LoseDisk.f k bt225.1 l3).bind fun bt230 => (some (bt230.1, bt230.2))))) = some (r1, r2) := by first | (rw [hy221]; with_reducible exact H) | (have H2_ := (Option.bind_some _ _).symm.trans H; rw [hy221]; with_reducible exact H2_) | (have H2_ := (Option.bind_some _ _).symm.trans H; with_reducible exact H2_) | with_reducible exact H | (rw [hy221]; exact H) | exact H
    have Ny221 := Aside0.mk hy221
    clear hy221
    replace H := Option.bind_eq_some_iff.mp H
    obtain ⟨⟨t225, t228⟩, A90, H⟩ := H
    replace H : (if t228 < a2 then (some (([] : List (S67)), false)) else ((spec_LoseDisk.f k t225 l3).bind fun bt230 => (some (bt230.1, bt230.2)))) = some (r1, r2) := H
    have A9 := Aside0.mk A90
    clear A90
    by_cases c10 : t228 < a2
    ·rw [if_pos c10] at H
     have c10b0 : decide (t228 < a2) = true := decide_eq_true c10
     clear c10
     simp only [Option.some.injEq, Prod.mk.injEq] at H
     obtain ⟨rfl, rfl⟩ := H
     go_enter Try.func38, Try.ntmps38
     try go_wp2_with (first | ((with_reducible refine gate_dst (N := 4) rfl ?_); refine box_event ?hg (N := 4) ?hd (cs := #[.slice A0_0 l0_0.length c0_0]) (t := 29) ?hr ?_; (case hd => rfl); (case hg => rfl); (case hr => first | (go_simp; done) | (go_simp; rfl)); intro gb218 hg w11 hbox hb; have n0_ := Aside0.mk (below_step (hh_ HB) hb); have n1_ := Aside0.mk (hbox); have n2_ := Aside0.mk ((by rw [hg]; exact (below_size (hh_ HB)) : w.heap.size ≤ gb218)); have n3_ := n2_; clear HB; have HB := n0_; have BK218 := n1_; have GW218 := n2_; have GE218 := n3_; clear n0_ n1_ n2_ n3_; clear hb hbox hg) | ((with_reducible refine gate_dst (N := 8) rfl ?_); refine box_event ?hg (N := 8) ?hd (cs := #[.slice none 0 0]) (t := 29) ?hr ?_; (case hd => rfl); (case hg => rfl); (case hr => first | (go_simp; done) | (go_simp; rfl)); intro gb219 hg w12 hbox hb; have n0_ := Aside0.mk (blk_below (bb_ BK218) hb); have n1_ := Aside0.mk (below_step (hh_ HB) hb); have n2_ := Aside0.mk (hbox); have n3_ := Aside0.mk ((by rw [hg]; exact (below_size (hh_ HB)) : w.heap.size ≤ gb219)); have n4_ := n3_; have n5_ := Aside0.mk ((by rw [hg]; exact Nat.ne_of_lt (blk_lt (bb_ BK218)) : gb218 ≠ gb219)); have n6_ := Aside0.mk ((by rw [hg]; exact Nat.ne_of_gt (blk_lt (bb_ BK218)) : gb219 ≠ gb218)); clear BK218; clear HB; have BK218 := n0_; have HB := n1_; have BK219 := n2_; have GW219 := n3_; have GE219 := n4_; have NB218_219 := n5_; have NB219_218 := n6_; clear n0_ n1_ n2_ n3_ n4_ n5_ n6_; clear hb hbox hg) | ((with_reducible refine gate_callee (f := 49) rfl ?_); refine goesL_ (some 15) rfl rfl Try.func49 (by kernel_rfl) rfl #[.int .i64 a2, .int .i64 0, .int .i64 (l1.length : Int)] rfl (by (try simp only [List.map_toArray, List.map_cons, List.map_nil]); first | done | rfl | (simp only [List.length_drop, List.length_take]; rfl)) ?_; (with_reducible refine (spec_l01In.calls a2 0 (l1.length : Int) true _ A5.out).mono ?_); rintro e w' ⟨rfl, ⟨nd, rfl⟩⟩; refine ⟨_, rfl, ?_⟩; (try (rw [drewN_self w12]; generalize hq_ : World.drewN w12 _ = w12; have n0_ : Aside0 (w12.heap[gb218]? = some (.cells #[.slice A0_0 l0_0.length c0_0] 29 (0, 0))) := ⟨by rw [← hq_]; exact (bb_ BK218)⟩; have n1_ : Aside0 (w12.heap[gb219]? = some (.cells #[.slice none 0 0] 29 (0, 0))) := ⟨by rw [← hq_]; exact (bb_ BK219)⟩; have n2_ : Aside0 (Below w.heap.size w w12) := ⟨by rw [← hq_]; exact (hh_ HB)⟩; clear BK218 BK219 HB hq_; have BK218 := n0_; have BK219 := n1_; have HB := n2_; clear n0_ n1_ n2_))))
     have n0_ := Aside0.mk (blk_drew BK218.out)
     have n1_ := Aside0.mk (blk_drew BK219.out)
     have n2_ := Aside0.mk (below_drew1 HB.out)
     clear BK218 BK219 HB
     have BK218 := n0_; have BK219 := n1_; have HB := n2_
     clear n0_ n1_ n2_
     have q14 : (a2 : Int) ≤ ((l1.length : Int) : Int) := of_decide_eq_true (by first | (with_reducible assumption) | assumption)
     obtain ⟨i014, hi014, _, hsz14, _⟩ := info_parts info41
     have hroom14 : l1.length ≤ c1 := HC1.out
     have hC14 : Kd.C k41 _ A1 l1.length l1 := HR1.out
     have hcut14 := cut_to (P := Try.prog) 49 41 .i64 Try.underlying49 hi014 A1 l1.length c1 a2 (of_decide_eq_true (by first | (with_reducible assumption) | assumption)) q14 hroom14
     have hr14 := Kd.C_take (m := (a2 : Int).toNat) hC14 (by omega)
     have hy14 : y221.length = (a2 : Int).toNat := (by rw [Ny221.out, List.length_take]; omega)
     rw [← Ny221.out] at hr14
     rw [← hy14] at hcut14
     have HR224 := Aside0.mk hr14
     have HC224 := Aside0.mk (show y221.length ≤ c1 from by omega)
     clear hr14 hC14 hroom14 hi014 hsz14
     have KY14 := Aside0.mk hy14
     clear hy14
     replace q14 := eq_true q14
     refine start_ (n := 11) (S := fun w' => w'.cell? ⟨gb218, 0, none⟩ = some (.slice A0_0 l0_0.length c0_0)) (ds := []) #[false, false, false, false, false, false, false, false, false, false, false] (by kernel_rfl) rfl rfl ((blk_cell BK218.out 0).trans rfl) (fun hHeld => ?_); refine with_tabW spec_CutActs.tab3 spec_CutActs.bits3 (fun HT_ HW_ => ?_)
     generalize w12.drew = w13 at BK218 BK219 HB HR224 hHeld ⊢
     refine pure_ (i := 1) (N := some 20) (v := ?_) (a' := ?_) #[false, true, false, false, false, false, false, false, false, false, false] rfl rfl (any_of HT_.out (by kernel_rfl)) (fun _ _ _ h => h) (Or.inl ⟨by rfl, ?_⟩) ?_ ?_
     rotate_left
     ·intro w'
      go_simp
      with_reducible rfl
     rotate_left
     ·simp only [Act.put, List.setIfInBounds_toArray, List.set_cons_zero, List.set_cons_succ, i64_w, i32_w]
      rfl
     refine pure_ (i := 2) (N := some 21) (v := ?_) (a' := ?_) #[false, true, true, false, false, false, false, false, false, false, false] rfl rfl (any_of HT_.out (by kernel_rfl)) (fun _ _ _ h => h) (Or.inl ⟨by rfl, ?_⟩) ?_ ?_
     rotate_left
     ·intro w'
      go_simp
      with_reducible rfl
     rotate_left
     ·simp only [Act.put, List.setIfInBounds_toArray, List.set_cons_zero, List.set_cons_succ, i64_w, i32_w]
      rfl
     refine pure_ (i := 3) (N := some 22) (v := ?_) (a' := ?_) #[false, true, true, true, false, false, false, false, false, false, false] rfl rfl (any_of HT_.out (by kernel_rfl)) (fun _ _ _ h => h) (Or.inl ⟨by rfl, ?_⟩) ?_ ?_
     rotate_left
     ·intro w'
      go_simp
      with_reducible rfl
     rotate_left
     ·simp only [Act.put, List.setIfInBounds_toArray, List.set_cons_zero, List.set_cons_succ, i64_w, i32_w]
      rfl
     refine take_ (i := 0) (N := some 19) (v := ?_) (a' := ?_) #[true, true, true, true, false, false, false, false, false, false, false] rfl rfl (take_ofW HT_.out HW_.out (by kernel_rfl)) (fun _ _ _ h => h) (Or.inl ⟨by rfl, ?_⟩) hHeld ?_ ?_
     rotate_left
     ·intro w' s0
      go_simp
      with_reducible rfl
     rotate_left
     ·simp only [Act.put, List.setIfInBounds_toArray, List.set_cons_zero, List.set_cons_succ, i64_w, i32_w]
      rfl
     refine join_ (σ := Value × Nat) 2 #[true, true, true, true, true, true, true, true, true, false, false] (fun s_ => [(23, .tuple #[.agg #[s_.1], .int .i64 t228]), (10, .pointer (some ⟨s_.2, 0, none⟩)), (18, .tuple #[.agg #[s_.1], .int .i64 t228]), (24, .agg #[s_.1]), (25, .int .i64 t228)]) (fun s_ w' => (w'.cell? ⟨gb218, 0, none⟩ = some (.slice A0_0 l0_0.length c0_0)) ∧ (Kd.R k67 67 w' w.heap.size (fun _ => True) s_.1 t225) ∧ (w'.heap[gb218]? = some (.cells #[.slice A0_0 l0_0.length c0_0] 29 (0, 0))) ∧ (w'.heap[gb219]? = some (.cells #[.slice none 0 0] 29 (0, 0))) ∧ (w'.heap[s_.2]? = some (.cells #[.slice none 0 0] 29 (0, 0))) ∧ (w.heap.size ≤ s_.2) ∧ (w.heap.size ≤ s_.2) ∧ (gb218 ≠ s_.2) ∧ (s_.2 ≠ gb218) ∧ (gb219 ≠ s_.2) ∧ (s_.2 ≠ gb219) ∧ (Below w.heap.size w w')) ?_ ?_
     rotate_left
     ·intro hCont
      refine two_ (i := 4) (j := 8) (Ni := some 23) (Nj := some 10) #[true, true, true, true, true, false, false, false, false, false, false] #[true, true, true, true, false, false, false, false, true, false, false] rfl rfl rfl rfl (two_of HT_.out (by kernel_rfl)) (by decide) (by decide) (fun K hK => ?_) (fun K hK => ?_)
      ·skip
       refine goes_ Try.func28 (by kernel_rfl) rfl #[.agg #[.slice A0_0 l0_0.length c0_0], .slice A1 y221.length c1] (by rfl) rfl rfl (by (try simp only [List.map_toArray, List.map_cons, List.map_nil]); first | done | rfl | (simp only [List.length_drop, List.length_take]; rfl)) ?_
       with_reducible refine (spec_DoActs.calls k _ _ l0_0 _ _ y221 t225 t228 _ ?side1 ?side2 ?side3 ?side4 A9.out).mono ?_
       (case side1 => repeat (first | exact (Kd.C_below HR0_0.out HB.out) | (with_reducible refine Kd.C_alloc ?_ _) | (with_reducible refine Kd.C_drewN ?_ _) | (with_reducible refine Kd.C_drew ?_)))
       (case side2 => exact HC0_0.out)
       (case side3 => repeat (first | exact (Kd.C_below HR224.out HB.out) | (with_reducible refine Kd.C_alloc ?_ _) | (with_reducible refine Kd.C_drewN ?_ _) | (with_reducible refine Kd.C_drew ?_)))
       (case side4 => exact HC224.out)
       rintro e w15 ⟨v226, rfl, ho0, hb⟩
       refine ⟨_, rfl, ?_⟩
       have n0_ := Aside0.mk (Kd.R_lower ho0 (below_size HB.out))
       have n1_ := Aside0.mk (blk_below BK218.out hb)
       have n2_ := Aside0.mk (blk_below BK219.out hb)
       have n3_ := Aside0.mk (below_step HB.out hb)
       clear BK218 BK219 HB
       have HO227 := n0_; have BK218 := n1_; have BK219 := n2_; have HB := n3_
       clear n0_ n1_ n2_ n3_
       (try clear hb); (try clear hb2); (try clear hk); (try clear hi); (try clear ho0)
       refine hK.out _ _ ((blk_cell BK218.out 0).trans rfl) (fun hHeld => ?_)
       clear hK K
       refine norm_ (a' := ?_) ?_ ?_
       rotate_left
       ·show Act.put _ (some 23) _ = _
        simp only [Act.put, List.setIfInBounds_toArray, List.set_cons_zero, List.set_cons_succ, i64_w, i32_w]
        rfl
       refine pure_ (i := 5) (N := some 18) (v := ?_) (a' := ?_) #[true, true, true, true, true, true, false, false, false, false, false] rfl rfl (any_of HT_.out (by kernel_rfl)) (fun _ _ _ h => h) (Or.inl ⟨by rfl, ?_⟩) ?_ ?_
       rotate_left
       ·intro w'
        go_simp
        with_reducible rfl
       rotate_left
       ·simp only [Act.put, List.setIfInBounds_toArray, List.set_cons_zero, List.set_cons_succ, i64_w, i32_w]
        rfl
       refine pure_ (i := 6) (N := some 24) (v := ?_) (a' := ?_) #[true, true, true, true, true, true, true, false, false, false, false] rfl rfl (any_of HT_.out (by kernel_rfl)) (fun _ _ _ h => h) (Or.inl ⟨by rfl, ?_⟩) ?_ ?_
       rotate_left
       ·intro w'
        go_simp
        with_reducible rfl
       rotate_left
       ·simp only [Act.put, List.setIfInBounds_toArray, List.set_cons_zero, List.set_cons_succ, i64_w, i32_w]
        rfl
       refine pure_ (i := 7) (N := some 25) (v := ?_) (a' := ?_) #[true, true, true, true, true, true, true, true, false, false, false] rfl rfl (any_of HT_.out (by kernel_rfl)) (fun _ _ _ h => h) (Or.inl ⟨by rfl, ?_⟩) ?_ ?_
       rotate_left
       ·intro w'
        go_simp
        with_reducible rfl
       rotate_left
       ·simp only [Act.put, List.setIfInBounds_toArray, List.set_cons_zero, List.set_cons_succ, i64_w, i32_w]
        rfl
       refine one_ (i := 8) (N := some 10) #[true, true, true, true, true, true, true, true, true, false, false] rfl rfl (one_of HT_.out (by kernel_rfl)) (by decide) (fun K hK => ?_)
       refine box_step ?hg (N := 10) ?hd (cs := #[.slice none 0 0]) (t := 29) ?hr ?_; (case hd => rfl); (case hg => rfl); (case hr => first | (go_simp; done) | (go_simp; rfl))
       intro gb229 hg w16 hbox hb
       have n0_ := Aside0.mk (Kd.R_below HO227.out hb)
       have n1_ := Aside0.mk (blk_below BK218.out hb)
       have n2_ := Aside0.mk (blk_below BK219.out hb)
       have n3_ := Aside0.mk (below_step HB.out hb)
       have n4_ := Aside0.mk (hbox)
       have n5_ := Aside0.mk ((by rw [hg]; exact (below_size HB.out) : w.heap.size ≤ gb229))
       have n6_ := n5_
       have n7_ := Aside0.mk ((by rw [hg]; exact Nat.ne_of_lt (blk_lt BK218.out) : gb218 ≠ gb229))
       have n8_ := Aside0.mk ((by rw [hg]; exact Nat.ne_of_gt (blk_lt BK218.out) : gb229 ≠ gb218))
       have n9_ := Aside0.mk ((by rw [hg]; exact Nat.ne_of_lt (blk_lt BK219.out) : gb219 ≠ gb229))
       have n10_ := Aside0.mk ((by rw [hg]; exact Nat.ne_of_gt (blk_lt BK219.out) : gb229 ≠ gb219))
       clear HO227 BK218 BK219 HB
       have HO227 := n0_; have BK218 := n1_; have BK219 := n2_; have HB := n3_; have BK229 := n4_; have GW229 := n5_; have GE229 := n6_; have NB218_229 := n7_; have NB229_218 := n8_; have NB219_229 := n9_; have NB229_219 := n10_
       clear n0_ n1_ n2_ n3_ n4_ n5_ n6_ n7_ n8_ n9_ n10_ hb hbox hg
       refine hK.out _ _ ((blk_cell BK218.out 0).trans rfl) (fun hHeld => ?_)
       clear hK K
       refine norm_ (a' := ?_) ?_ ?_
       rotate_left
       ·show Act.put _ (some 10) _ = _
        simp only [Act.put, List.setIfInBounds_toArray, List.set_cons_zero, List.set_cons_succ, i64_w, i32_w]
        rfl
       exact norm_ (by simp only [putAll, Act.put, List.setIfInBounds_toArray, List.set_cons_zero, List.set_cons_succ]) (hCont (v226, gb229) _ ⟨hHeld, HO227.out, BK218.out, BK219.out, BK229.out, GW229.out, GE229.out, NB218_229.out, NB229_218.out, NB219_229.out, NB229_219.out, HB.out⟩)
      ·skip
       refine box_step ?hg (N := 10) ?hd (cs := #[.slice none 0 0]) (t := 29) ?hr ?_; (case hd => rfl); (case hg => rfl); (case hr => first | (go_simp; done) | (go_simp; rfl))
       intro gb229 hg w15 hbox hb
       have n0_ := Aside0.mk (blk_below BK218.out hb)
       have n1_ := Aside0.mk (blk_below BK219.out hb)
       have n2_ := Aside0.mk (below_step HB.out hb)
       have n3_ := Aside0.mk (hbox)
       have n4_ := Aside0.mk ((by rw [hg]; exact (below_size HB.out) : w.heap.size ≤ gb229))
       have n5_ := n4_
       have n6_ := Aside0.mk ((by rw [hg]; exact Nat.ne_of_lt (blk_lt BK218.out) : gb218 ≠ gb229))
       have n7_ := Aside0.mk ((by rw [hg]; exact Nat.ne_of_gt (blk_lt BK218.out) : gb229 ≠ gb218))
       have n8_ := Aside0.mk ((by rw [hg]; exact Nat.ne_of_lt (blk_lt BK219.out) : gb219 ≠ gb229))
       have n9_ := Aside0.mk ((by rw [hg]; exact Nat.ne_of_gt (blk_lt BK219.out) : gb229 ≠ gb219))
       clear BK218 BK219 HB
       have BK218 := n0_; have BK219 := n1_; have HB := n2_; have BK229 := n3_; have GW229 := n4_; have GE229 := n5_; have NB218_229 := n6_; have NB229_218 := n7_; have NB219_229 := n8_; have NB229_219 := n9_
       clear n0_ n1_ n2_ n3_ n4_ n5_ n6_ n7_ n8_ n9_ hb hbox hg
       refine hK.out _ _ ((blk_cell BK218.out 0).trans rfl) (fun hHeld => ?_)
       clear hK K
       refine norm_ (a' := ?_) ?_ ?_
       rotate_left
       ·show Act.put _ (some 10) _ = _
        simp only [Act.put, List.setIfInBounds_toArray, List.set_cons_zero, List.set_cons_succ, i64_w, i32_w]
        rfl
       refine one_ (i := 4) (N := some 23) #[true, true, true, true, true, false, false, false, true, false, false] rfl rfl (one_of HT_.out (by kernel_rfl)) (by decide) (fun K hK => ?_)
       refine goes_ Try.func28 (by kernel_rfl) rfl #[.agg #[.slice A0_0 l0_0.length c0_0], .slice A1 y221.length c1] (by rfl) rfl rfl (by (try simp only [List.map_toArray, List.map_cons, List.map_nil]); first | done | rfl | (simp only [List.length_drop, List.length_take]; rfl)) ?_
       with_reducible refine (spec_DoActs.calls k _ _ l0_0 _ _ y221 t225 t228 _ ?side1 ?side2 ?side3 ?side4 A9.out).mono ?_
       (case side1 => repeat (first | exact (Kd.C_below HR0_0.out HB.out) | (with_reducible refine Kd.C_alloc ?_ _) | (with_reducible refine Kd.C_drewN ?_ _) | (with_reducible refine Kd.C_drew ?_)))
       (case side2 => exact HC0_0.out)
       (case side3 => repeat (first | exact (Kd.C_below HR224.out HB.out) | (with_reducible refine Kd.C_alloc ?_ _) | (with_reducible refine Kd.C_drewN ?_ _) | (with_reducible refine Kd.C_drew ?_)))
       (case side4 => exact HC224.out)
       rintro e w16 ⟨v226, rfl, ho0, hb⟩
       refine ⟨_, rfl, ?_⟩
       have n0_ := Aside0.mk (Kd.R_lower ho0 (below_size HB.out))
       have n1_ := Aside0.mk (blk_below BK218.out hb)
       have n2_ := Aside0.mk (blk_below BK219.out hb)
       have n3_ := Aside0.mk (blk_below BK229.out hb)
       have n4_ := Aside0.mk (below_step HB.out hb)
       clear BK218 BK219 BK229 HB
       have HO227 := n0_; have BK218 := n1_; have BK219 := n2_; have BK229 := n3_; have HB := n4_
       clear n0_ n1_ n2_ n3_ n4_
       (try clear hb); (try clear hb2); (try clear hk); (try clear hi); (try clear ho0)
       refine hK.out _ _ ((blk_cell BK218.out 0).trans rfl) (fun hHeld => ?_)
       clear hK K
       refine norm_ (a' := ?_) ?_ ?_
       rotate_left
       ·show Act.put _ (some 23) _ = _
        simp only [Act.put, List.setIfInBounds_toArray, List.set_cons_zero, List.set_cons_succ, i64_w, i32_w]
        rfl
       refine pure_ (i := 5) (N := some 18) (v := ?_) (a' := ?_) #[true, true, true, true, true, true, false, false, true, false, false] rfl rfl (any_of HT_.out (by kernel_rfl)) (fun _ _ _ h => h) (Or.inl ⟨by rfl, ?_⟩) ?_ ?_
       rotate_left
       ·intro w'
        go_simp
        with_reducible rfl
       rotate_left
       ·simp only [Act.put, List.setIfInBounds_toArray, List.set_cons_zero, List.set_cons_succ, i64_w, i32_w]
        rfl
       refine pure_ (i := 6) (N := some 24) (v := ?_) (a' := ?_) #[true, true, true, true, true, true, true, false, true, false, false] rfl rfl (any_of HT_.out (by kernel_rfl)) (fun _ _ _ h => h) (Or.inl ⟨by rfl, ?_⟩) ?_ ?_
       rotate_left
       ·intro w'
        go_simp
        with_reducible rfl
       rotate_left
       ·simp only [Act.put, List.setIfInBounds_toArray, List.set_cons_zero, List.set_cons_succ, i64_w, i32_w]
        rfl
       refine pure_ (i := 7) (N := some 25) (v := ?_) (a' := ?_) #[true, true, true, true, true, true, true, true, true, false, false] rfl rfl (any_of HT_.out (by kernel_rfl)) (fun _ _ _ h => h) (Or.inl ⟨by rfl, ?_⟩) ?_ ?_
       rotate_left
       ·intro w'
        go_simp
        with_reducible rfl
       rotate_left
       ·simp only [Act.put, List.setIfInBounds_toArray, List.set_cons_zero, List.set_cons_succ, i64_w, i32_w]
        rfl
       exact norm_ (by simp only [putAll, Act.put, List.setIfInBounds_toArray, List.set_cons_zero, List.set_cons_succ]) (hCont (v226, gb229) _ ⟨hHeld, HO227.out, BK218.out, BK219.out, BK229.out, GW229.out, GE229.out, NB218_229.out, NB229_218.out, NB219_229.out, NB229_219.out, HB.out⟩)
     rintro ⟨v226, gb229⟩ w17 ⟨hS_, h0_, h1_, h2_, h3_, h4_, h5_, h6_, h7_, h8_, h9_, h10_⟩
     have n0_ : Aside0 (Kd.R k67 67 w17 w.heap.size (fun _ => True) v226 t225) := ⟨h0_⟩
     have n1_ : Aside0 (w17.heap[gb218]? = some (.cells #[.slice A0_0 l0_0.length c0_0] 29 (0, 0))) := ⟨h1_⟩
     have n2_ : Aside0 (w17.heap[gb219]? = some (.cells #[.slice none 0 0] 29 (0, 0))) := ⟨h2_⟩
     have n3_ : Aside0 (w17.heap[gb229]? = some (.cells #[.slice none 0 0] 29 (0, 0))) := ⟨h3_⟩
     have n4_ : Aside0 (w.heap.size ≤ gb229) := ⟨h4_⟩
     have n5_ : Aside0 (w.heap.size ≤ gb229) := ⟨h5_⟩
     have n6_ : Aside0 (gb218 ≠ gb229) := ⟨h6_⟩
     have n7_ : Aside0 (gb229 ≠ gb218) := ⟨h7_⟩
     have n8_ : Aside0 (gb219 ≠ gb229) := ⟨h8_⟩
     have n9_ : Aside0 (gb229 ≠ gb219) := ⟨h9_⟩
     have n10_ : Aside0 (Below w.heap.size w w17) := ⟨h10_⟩
     clear BK218 BK219 HB h0_ h1_ h2_ h3_ h4_ h5_ h6_ h7_ h8_ h9_ h10_
     have HO227 := n0_; have BK218 := n1_; have BK219 := n2_; have BK229 := n3_; have GW229 := n4_; have GE229 := n5_; have NB218_229 := n6_; have NB229_218 := n7_; have NB219_229 := n8_; have NB229_219 := n9_; have HB := n10_
     clear n0_ n1_ n2_ n3_ n4_ n5_ n6_ n7_ n8_ n9_ n10_
     have hHeld : w17.cell? ⟨gb218, 0, none⟩ = some (.slice A0_0 l0_0.length c0_0) := hS_
     obtain ⟨Ao18, co18, eo18⟩ := Kd.R_slice HO227.out
     (first | subst eo18 | (injection eo18 with f1_ f2_ f3_; have f4_ := f1_.symm; have f5_ := f3_.symm; clear f1_ f2_ f3_; subst f4_; subst f5_))
     refine norm_ (a' := ?_) ?_ ?_
     rotate_left
     ·simp only [putAll, Act.put, List.setIfInBounds_toArray, List.set_cons_zero, List.set_cons_succ]
      rfl
     refine one_ (i := 9) (N := none) #[true, true, true, true, true, true, true, true, true, true, false] rfl rfl (one_of HT_.out (by kernel_rfl)) (by decide) (fun K hK => ?_)
     have hs19 : w17.cell? ⟨gb229, 0, none⟩ = some (.slice none 0 0) := (blk_cell BK229.out 0).trans rfl
     have hfs19 := blk_frozen BK229.out 0
     have hns19_0 := NB218_229.out; have hns19_1 := NB219_229.out; have hms19_0 := NB229_218.out; have hms19_1 := NB229_219.out
     refine skip_ (w1 := ?_) (by rfl) rfl ?_ ?_
     rotate_left
     ·go_simp
      rfl
     refine hK.out _ _ (((cell_far (p := ⟨gb229, _, none⟩) NB218_229.out _).trans (hHeld))) (fun hHeld => ?_)
     clear hK K
     refine pure_ (i := 10) (N := some 11) (v := ?_) (a' := ?_) #[true, true, true, true, true, true, true, true, true, true, true] rfl rfl (any_of HT_.out (by kernel_rfl)) (fun _ _ _ h => h) (Or.inl ⟨by rfl, ?_⟩) ?_ ?_
     rotate_left
     ·intro w'
      go_simp
      with_reducible rfl
     rotate_left
     ·simp only [Act.put, List.setIfInBounds_toArray, List.set_cons_zero, List.set_cons_succ, i64_w, i32_w]
      rfl
     refine done_ (done_of HT_.out (by kernel_rfl)) ?_
     have hnb20 := NB219_218.out; have hnc20 := NB218_219.out; have hnb21 := NB219_229.out; have hnc21 := NB229_219.out
     have hcz22_0 : w17.cell? ⟨gb219, 0, none⟩ = some (.slice none 0 0) := (blk_cell BK219.out 0).trans rfl
     have hfz22_0 := blk_frozen BK219.out 0
     try go_wp2
     refine bodyPost_ret (results_ct rfl _ _ gb219 29 #[.slice none 0 0] (0, 0) _ rfl (by (with_reducible repeat (first | refine blk_drewN ?_ _ | refine blk_drew ?_ | refine blk_alloc ?_ _)); refine blk_put (cs := #[.slice none 0 0]) ?_ 0 _ rfl; refine blk_far ?_ NB219_229.out _; exact bb_ BK219) Try.underlying29 rfl (by kernel_rfl)) rfl ?_
     exact ⟨_, by first | rfl | (simp [errW_none, errW_some] <;> rfl) | (simp [*, errW_none, errW_some] <;> rfl), by first | exact Kd.R_nil _ _ _ _ _ | exact Kd.N_nil _ _ _ _ _ | exact Kd.V_nil _ _ _ _ _ | exact Kd.Q_nil _ _ _ _ _ | exact Kd.S_nil _ _ _ _ _, by repeat (first | (with_reducible first | exact HB.out | apply below_alloc | apply pw_below_drewN | apply below_drew1 | refine below_set ?_ GE218.out | refine below_set ?_ GE219.out | refine below_set ?_ GE229.out) | exact HB.out)⟩
    ·rw [if_neg c10] at H
     have c10b0 : decide (t228 < a2) = false := decide_eq_false c10
     clear c10
     replace H := Option.bind_eq_some_iff.mp H
     obtain ⟨⟨t230, t233⟩, A230, H⟩ := H
     replace H : (some (t230, t233)) = some (r1, r2) := H
     have A23 := Aside0.mk A230
     clear A230
     simp only [Option.some.injEq, Prod.mk.injEq] at H
     obtain ⟨rfl, rfl⟩ := H
     go_enter Try.func38, Try.ntmps38
     try go_wp2_with (first | ((with_reducible refine gate_dst (N := 4) rfl ?_); refine box_event ?hg (N := 4) ?hd (cs := #[.slice A0_0 l0_0.length c0_0]) (t := 29) ?hr ?_; (case hd => rfl); (case hg => rfl); (case hr => first | (go_simp; done) | (go_simp; rfl)); intro gb218 hg w24 hbox hb; have n0_ := Aside0.mk (below_step (hh_ HB) hb); have n1_ := Aside0.mk (hbox); have n2_ := Aside0.mk ((by rw [hg]; exact (below_size (hh_ HB)) : w.heap.size ≤ gb218)); have n3_ := n2_; clear HB; have HB := n0_; have BK218 := n1_; have GW218 := n2_; have GE218 := n3_; clear n0_ n1_ n2_ n3_; clear hb hbox hg) | ((with_reducible refine gate_dst (N := 8) rfl ?_); refine box_event ?hg (N := 8) ?hd (cs := #[.slice none 0 0]) (t := 29) ?hr ?_; (case hd => rfl); (case hg => rfl); (case hr => first | (go_simp; done) | (go_simp; rfl)); intro gb219 hg w25 hbox hb; have n0_ := Aside0.mk (blk_below (bb_ BK218) hb); have n1_ := Aside0.mk (below_step (hh_ HB) hb); have n2_ := Aside0.mk (hbox); have n3_ := Aside0.mk ((by rw [hg]; exact (below_size (hh_ HB)) : w.heap.size ≤ gb219)); have n4_ := n3_; have n5_ := Aside0.mk ((by rw [hg]; exact Nat.ne_of_lt (blk_lt (bb_ BK218)) : gb218 ≠ gb219)); have n6_ := Aside0.mk ((by rw [hg]; exact Nat.ne_of_gt (blk_lt (bb_ BK218)) : gb219 ≠ gb218)); clear BK218; clear HB; have BK218 := n0_; have HB := n1_; have BK219 := n2_; have GW219 := n3_; have GE219 := n4_; have NB218_219 := n5_; have NB219_218 := n6_; clear n0_ n1_ n2_ n3_ n4_ n5_ n6_; clear hb hbox hg) | ((with_reducible refine gate_callee (f := 49) rfl ?_); refine goesL_ (some 15) rfl rfl Try.func49 (by kernel_rfl) rfl #[.int .i64 a2, .int .i64 0, .int .i64 (l1.length : Int)] rfl (by (try simp only [List.map_toArray, List.map_cons, List.map_nil]); first | done | rfl | (simp only [List.length_drop, List.length_take]; rfl)) ?_; (with_reducible refine (spec_l01In.calls a2 0 (l1.length : Int) true _ A5.out).mono ?_); rintro e w' ⟨rfl, ⟨nd, rfl⟩⟩; refine ⟨_, rfl, ?_⟩; (try (rw [drewN_self w25]; generalize hq_ : World.drewN w25 _ = w25; have n0_ : Aside0 (w25.heap[gb218]? = some (.cells #[.slice A0_0 l0_0.length c0_0] 29 (0, 0))) := ⟨by rw [← hq_]; exact (bb_ BK218)⟩; have n1_ : Aside0 (w25.heap[gb219]? = some (.cells #[.slice none 0 0] 29 (0, 0))) := ⟨by rw [← hq_]; exact (bb_ BK219)⟩; have n2_ : Aside0 (Below w.heap.size w w25) := ⟨by rw [← hq_]; exact (hh_ HB)⟩; clear BK218 BK219 HB hq_; have BK218 := n0_; have BK219 := n1_; have HB := n2_; clear n0_ n1_ n2_))))
     have n0_ := Aside0.mk (blk_drew BK218.out)
     have n1_ := Aside0.mk (blk_drew BK219.out)
     have n2_ := Aside0.mk (below_drew1 HB.out)
     clear BK218 BK219 HB
     have BK218 := n0_; have BK219 := n1_; have HB := n2_
     clear n0_ n1_ n2_
     have q27 : (a2 : Int) ≤ ((l1.length : Int) : Int) := of_decide_eq_true (by first | (with_reducible assumption) | assumption)
     obtain ⟨i027, hi027, _, hsz27, _⟩ := info_parts info41
     have hroom27 : l1.length ≤ c1 := HC1.out
     have hC27 : Kd.C k41 _ A1 l1.length l1 := HR1.out
     have hcut27 := cut_to (P := Try.prog) 49 41 .i64 Try.underlying49 hi027 A1 l1.length c1 a2 (of_decide_eq_true (by first | (with_reducible assumption) | assumption)) q27 hroom27
     have hr27 := Kd.C_take (m := (a2 : Int).toNat) hC27 (by omega)
     have hy27 : y221.length = (a2 : Int).toNat := (by rw [Ny221.out, List.length_take]; omega)
     rw [← Ny221.out] at hr27
     rw [← hy27] at hcut27
     have HR224 := Aside0.mk hr27
     have HC224 := Aside0.mk (show y221.length ≤ c1 from by omega)
     clear hr27 hC27 hroom27 hi027 hsz27
     have KY27 := Aside0.mk hy27
     clear hy27
     replace q27 := eq_true q27
     refine start_ (n := 11) (S := fun w' => w'.cell? ⟨gb218, 0, none⟩ = some (.slice A0_0 l0_0.length c0_0)) (ds := []) #[false, false, false, false, false, false, false, false, false, false, false] (by kernel_rfl) rfl rfl ((blk_cell BK218.out 0).trans rfl) (fun hHeld => ?_); refine with_tabW spec_CutActs.tab3 spec_CutActs.bits3 (fun HT_ HW_ => ?_)
     generalize w25.drew = w26 at BK218 BK219 HB HR224 hHeld ⊢
     refine pure_ (i := 1) (N := some 20) (v := ?_) (a' := ?_) #[false, true, false, false, false, false, false, false, false, false, false] rfl rfl (any_of HT_.out (by kernel_rfl)) (fun _ _ _ h => h) (Or.inl ⟨by rfl, ?_⟩) ?_ ?_
     rotate_left
     ·intro w'
      go_simp
      with_reducible rfl
     rotate_left
     ·simp only [Act.put, List.setIfInBounds_toArray, List.set_cons_zero, List.set_cons_succ, i64_w, i32_w]
      rfl
     refine pure_ (i := 2) (N := some 21) (v := ?_) (a' := ?_) #[false, true, true, false, false, false, false, false, false, false, false] rfl rfl (any_of HT_.out (by kernel_rfl)) (fun _ _ _ h => h) (Or.inl ⟨by rfl, ?_⟩) ?_ ?_
     rotate_left
     ·intro w'
      go_simp
      with_reducible rfl
     rotate_left
     ·simp only [Act.put, List.setIfInBounds_toArray, List.set_cons_zero, List.set_cons_succ, i64_w, i32_w]
      rfl
     refine pure_ (i := 3) (N := some 22) (v := ?_) (a' := ?_) #[false, true, true, true, false, false, false, false, false, false, false] rfl rfl (any_of HT_.out (by kernel_rfl)) (fun _ _ _ h => h) (Or.inl ⟨by rfl, ?_⟩) ?_ ?_
     rotate_left
     ·intro w'
      go_simp
      with_reducible rfl
     rotate_left
     ·simp only [Act.put, List.setIfInBounds_toArray, List.set_cons_zero, List.set_cons_succ, i64_w, i32_w]
      rfl
     refine take_ (i := 0) (N := some 19) (v := ?_) (a' := ?_) #[true, true, true, true, false, false, false, false, false, false, false] rfl rfl (take_ofW HT_.out HW_.out (by kernel_rfl)) (fun _ _ _ h => h) (Or.inl ⟨by rfl, ?_⟩) hHeld ?_ ?_
     rotate_left
     ·intro w' s0
      go_simp
      with_reducible rfl
     rotate_left
     ·simp only [Act.put, List.setIfInBounds_toArray, List.set_cons_zero, List.set_cons_succ, i64_w, i32_w]
      rfl
     refine join_ (σ := Value × Nat) 2 #[true, true, true, true, true, true, true, true, true, false, false] (fun s_ => [(23, .tuple #[.agg #[s_.1], .int .i64 t228]), (10, .pointer (some ⟨s_.2, 0, none⟩)), (18, .tuple #[.agg #[s_.1], .int .i64 t228]), (24, .agg #[s_.1]), (25, .int .i64 t228)]) (fun s_ w' => (w'.cell? ⟨gb218, 0, none⟩ = some (.slice A0_0 l0_0.length c0_0)) ∧ (Kd.R k67 67 w' w.heap.size (fun _ => True) s_.1 t225) ∧ (w'.heap[gb218]? = some (.cells #[.slice A0_0 l0_0.length c0_0] 29 (0, 0))) ∧ (w'.heap[gb219]? = some (.cells #[.slice none 0 0] 29 (0, 0))) ∧ (w'.heap[s_.2]? = some (.cells #[.slice none 0 0] 29 (0, 0))) ∧ (w.heap.size ≤ s_.2) ∧ (w.heap.size ≤ s_.2) ∧ (gb218 ≠ s_.2) ∧ (s_.2 ≠ gb218) ∧ (gb219 ≠ s_.2) ∧ (s_.2 ≠ gb219) ∧ (Below w.heap.size w w')) ?_ ?_
     rotate_left
     ·intro hCont
      refine two_ (i := 4) (j := 8) (Ni := some 23) (Nj := some 10) #[true, true, true, true, true, false, false, false, false, false, false] #[true, true, true, true, false, false, false, false, true, false, false] rfl rfl rfl rfl (two_of HT_.out (by kernel_rfl)) (by decide) (by decide) (fun K hK => ?_) (fun K hK => ?_)
      ·skip
       refine goes_ Try.func28 (by kernel_rfl) rfl #[.agg #[.slice A0_0 l0_0.length c0_0], .slice A1 y221.length c1] (by rfl) rfl rfl (by (try simp only [List.map_toArray, List.map_cons, List.map_nil]); first | done | rfl | (simp only [List.length_drop, List.length_take]; rfl)) ?_
       with_reducible refine (spec_DoActs.calls k _ _ l0_0 _ _ y221 t225 t228 _ ?side1 ?side2 ?side3 ?side4 A9.out).mono ?_
       (case side1 => repeat (first | exact (Kd.C_below HR0_0.out HB.out) | (with_reducible refine Kd.C_alloc ?_ _) | (with_reducible refine Kd.C_drewN ?_ _) | (with_reducible refine Kd.C_drew ?_)))
       (case side2 => exact HC0_0.out)
       (case side3 => repeat (first | exact (Kd.C_below HR224.out HB.out) | (with_reducible refine Kd.C_alloc ?_ _) | (with_reducible refine Kd.C_drewN ?_ _) | (with_reducible refine Kd.C_drew ?_)))
       (case side4 => exact HC224.out)
       rintro e w28 ⟨v226, rfl, ho0, hb⟩
       refine ⟨_, rfl, ?_⟩
       have n0_ := Aside0.mk (Kd.R_lower ho0 (below_size HB.out))
       have n1_ := Aside0.mk (blk_below BK218.out hb)
       have n2_ := Aside0.mk (blk_below BK219.out hb)
       have n3_ := Aside0.mk (below_step HB.out hb)
       clear BK218 BK219 HB
       have HO227 := n0_; have BK218 := n1_; have BK219 := n2_; have HB := n3_
       clear n0_ n1_ n2_ n3_
       (try clear hb); (try clear hb2); (try clear hk); (try clear hi); (try clear ho0)
       refine hK.out _ _ ((blk_cell BK218.out 0).trans rfl) (fun hHeld => ?_)
       clear hK K
       refine norm_ (a' := ?_) ?_ ?_
       rotate_left
       ·show Act.put _ (some 23) _ = _
        simp only [Act.put, List.setIfInBounds_toArray, List.set_cons_zero, List.set_cons_succ, i64_w, i32_w]
        rfl
       refine pure_ (i := 5) (N := some 18) (v := ?_) (a' := ?_) #[true, true, true, true, true, true, false, false, false, false, false] rfl rfl (any_of HT_.out (by kernel_rfl)) (fun _ _ _ h => h) (Or.inl ⟨by rfl, ?_⟩) ?_ ?_
       rotate_left
       ·intro w'
        go_simp
        with_reducible rfl
       rotate_left
       ·simp only [Act.put, List.setIfInBounds_toArray, List.set_cons_zero, List.set_cons_succ, i64_w, i32_w]
        rfl
       refine pure_ (i := 6) (N := some 24) (v := ?_) (a' := ?_) #[true, true, true, true, true, true, true, false, false, false, false] rfl rfl (any_of HT_.out (by kernel_rfl)) (fun _ _ _ h => h) (Or.inl ⟨by rfl, ?_⟩) ?_ ?_
       rotate_left
       ·intro w'
        go_simp
        with_reducible rfl
       rotate_left
       ·simp only [Act.put, List.setIfInBounds_toArray, List.set_cons_zero, List.set_cons_succ, i64_w, i32_w]
        rfl
       refine pure_ (i := 7) (N := some 25) (v := ?_) (a' := ?_) #[true, true, true, true, true, true, true, true, false, false, false] rfl rfl (any_of HT_.out (by kernel_rfl)) (fun _ _ _ h => h) (Or.inl ⟨by rfl, ?_⟩) ?_ ?_
       rotate_left
       ·intro w'
        go_simp
        with_reducible rfl
       rotate_left
       ·simp only [Act.put, List.setIfInBounds_toArray, List.set_cons_zero, List.set_cons_succ, i64_w, i32_w]
        rfl
       refine one_ (i := 8) (N := some 10) #[true, true, true, true, true, true, true, true, true, false, false] rfl rfl (one_of HT_.out (by kernel_rfl)) (by decide) (fun K hK => ?_)
       refine box_step ?hg (N := 10) ?hd (cs := #[.slice none 0 0]) (t := 29) ?hr ?_; (case hd => rfl); (case hg => rfl); (case hr => first | (go_simp; done) | (go_simp; rfl))
       intro gb229 hg w29 hbox hb
       have n0_ := Aside0.mk (Kd.R_below HO227.out hb)
       have n1_ := Aside0.mk (blk_below BK218.out hb)
       have n2_ := Aside0.mk (blk_below BK219.out hb)
       have n3_ := Aside0.mk (below_step HB.out hb)
       have n4_ := Aside0.mk (hbox)
       have n5_ := Aside0.mk ((by rw [hg]; exact (below_size HB.out) : w.heap.size ≤ gb229))
       have n6_ := n5_
       have n7_ := Aside0.mk ((by rw [hg]; exact Nat.ne_of_lt (blk_lt BK218.out) : gb218 ≠ gb229))
       have n8_ := Aside0.mk ((by rw [hg]; exact Nat.ne_of_gt (blk_lt BK218.out) : gb229 ≠ gb218))
       have n9_ := Aside0.mk ((by rw [hg]; exact Nat.ne_of_lt (blk_lt BK219.out) : gb219 ≠ gb229))
       have n10_ := Aside0.mk ((by rw [hg]; exact Nat.ne_of_gt (blk_lt BK219.out) : gb229 ≠ gb219))
       clear HO227 BK218 BK219 HB
       have HO227 := n0_; have BK218 := n1_; have BK219 := n2_; have HB := n3_; have BK229 := n4_; have GW229 := n5_; have GE229 := n6_; have NB218_229 := n7_; have NB229_218 := n8_; have NB219_229 := n9_; have NB229_219 := n10_
       clear n0_ n1_ n2_ n3_ n4_ n5_ n6_ n7_ n8_ n9_ n10_ hb hbox hg
       refine hK.out _ _ ((blk_cell BK218.out 0).trans rfl) (fun hHeld => ?_)
       clear hK K
       refine norm_ (a' := ?_) ?_ ?_
       rotate_left
       ·show Act.put _ (some 10) _ = _
        simp only [Act.put, List.setIfInBounds_toArray, List.set_cons_zero, List.set_cons_succ, i64_w, i32_w]
        rfl
       exact norm_ (by simp only [putAll, Act.put, List.setIfInBounds_toArray, List.set_cons_zero, List.set_cons_succ]) (hCont (v226, gb229) _ ⟨hHeld, HO227.out, BK218.out, BK219.out, BK229.out, GW229.out, GE229.out, NB218_229.out, NB229_218.out, NB219_229.out, NB229_219.out, HB.out⟩)
      ·skip
       refine box_step ?hg (N := 10) ?hd (cs := #[.slice none 0 0]) (t := 29) ?hr ?_; (case hd => rfl); (case hg => rfl); (case hr => first | (go_simp; done) | (go_simp; rfl))
       intro gb229 hg w28 hbox hb
       have n0_ := Aside0.mk (blk_below BK218.out hb)
       have n1_ := Aside0.mk (blk_below BK219.out hb)
       have n2_ := Aside0.mk (below_step HB.out hb)
       have n3_ := Aside0.mk (hbox)
       have n4_ := Aside0.mk ((by rw [hg]; exact (below_size HB.out) : w.heap.size ≤ gb229))
       have n5_ := n4_
       have n6_ := Aside0.mk ((by rw [hg]; exact Nat.ne_of_lt (blk_lt BK218.out) : gb218 ≠ gb229))
       have n7_ := Aside0.mk ((by rw [hg]; exact Nat.ne_of_gt (blk_lt BK218.out) : gb229 ≠ gb218))
       have n8_ := Aside0.mk ((by rw [hg]; exact Nat.ne_of_lt (blk_lt BK219.out) : gb219 ≠ gb229))
       have n9_ := Aside0.mk ((by rw [hg]; exact Nat.ne_of_gt (blk_lt BK219.out) : gb229 ≠ gb219))
       clear BK218 BK219 HB
       have BK218 := n0_; have BK219 := n1_; have HB := n2_; have BK229 := n3_; have GW229 := n4_; have GE229 := n5_; have NB218_229 := n6_; have NB229_218 := n7_; have NB219_229 := n8_; have NB229_219 := n9_
       clear n0_ n1_ n2_ n3_ n4_ n5_ n6_ n7_ n8_ n9_ hb hbox hg
       refine hK.out _ _ ((blk_cell BK218.out 0).trans rfl) (fun hHeld => ?_)
       clear hK K
       refine norm_ (a' := ?_) ?_ ?_
       rotate_left
       ·show Act.put _ (some 10) _ = _
        simp only [Act.put, List.setIfInBounds_toArray, List.set_cons_zero, List.set_cons_succ, i64_w, i32_w]
        rfl
       refine one_ (i := 4) (N := some 23) #[true, true, true, true, true, false, false, false, true, false, false] rfl rfl (one_of HT_.out (by kernel_rfl)) (by decide) (fun K hK => ?_)
       refine goes_ Try.func28 (by kernel_rfl) rfl #[.agg #[.slice A0_0 l0_0.length c0_0], .slice A1 y221.length c1] (by rfl) rfl rfl (by (try simp only [List.map_toArray, List.map_cons, List.map_nil]); first | done | rfl | (simp only [List.length_drop, List.length_take]; rfl)) ?_
       with_reducible refine (spec_DoActs.calls k _ _ l0_0 _ _ y221 t225 t228 _ ?side1 ?side2 ?side3 ?side4 A9.out).mono ?_
       (case side1 => repeat (first | exact (Kd.C_below HR0_0.out HB.out) | (with_reducible refine Kd.C_alloc ?_ _) | (with_reducible refine Kd.C_drewN ?_ _) | (with_reducible refine Kd.C_drew ?_)))
       (case side2 => exact HC0_0.out)
       (case side3 => repeat (first | exact (Kd.C_below HR224.out HB.out) | (with_reducible refine Kd.C_alloc ?_ _) | (with_reducible refine Kd.C_drewN ?_ _) | (with_reducible refine Kd.C_drew ?_)))
       (case side4 => exact HC224.out)
       rintro e w29 ⟨v226, rfl, ho0, hb⟩
       refine ⟨_, rfl, ?_⟩
       have n0_ := Aside0.mk (Kd.R_lower ho0 (below_size HB.out))
       have n1_ := Aside0.mk (blk_below BK218.out hb)
       have n2_ := Aside0.mk (blk_below BK219.out hb)
       have n3_ := Aside0.mk (blk_below BK229.out hb)
       have n4_ := Aside0.mk (below_step HB.out hb)
       clear BK218 BK219 BK229 HB
       have HO227 := n0_; have BK218 := n1_; have BK219 := n2_; have BK229 := n3_; have HB := n4_
       clear n0_ n1_ n2_ n3_ n4_
       (try clear hb); (try clear hb2); (try clear hk); (try clear hi); (try clear ho0)
       refine hK.out _ _ ((blk_cell BK218.out 0).trans rfl) (fun hHeld => ?_)
       clear hK K
       refine norm_ (a' := ?_) ?_ ?_
       rotate_left
       ·show Act.put _ (some 23) _ = _
        simp only [Act.put, List.setIfInBounds_toArray, List.set_cons_zero, List.set_cons_succ, i64_w, i32_w]
        rfl
       refine pure_ (i := 5) (N := some 18) (v := ?_) (a' := ?_) #[true, true, true, true, true, true, false, false, true, false, false] rfl rfl (any_of HT_.out (by kernel_rfl)) (fun _ _ _ h => h) (Or.inl ⟨by rfl, ?_⟩) ?_ ?_
       rotate_left
       ·intro w'
        go_simp
        with_reducible rfl
       rotate_left
       ·simp only [Act.put, List.setIfInBounds_toArray, List.set_cons_zero, List.set_cons_succ, i64_w, i32_w]
        rfl
       refine pure_ (i := 6) (N := some 24) (v := ?_) (a' := ?_) #[true, true, true, true, true, true, true, false, true, false, false] rfl rfl (any_of HT_.out (by kernel_rfl)) (fun _ _ _ h => h) (Or.inl ⟨by rfl, ?_⟩) ?_ ?_
       rotate_left
       ·intro w'
        go_simp
        with_reducible rfl
       rotate_left
       ·simp only [Act.put, List.setIfInBounds_toArray, List.set_cons_zero, List.set_cons_succ, i64_w, i32_w]
        rfl
       refine pure_ (i := 7) (N := some 25) (v := ?_) (a' := ?_) #[true, true, true, true, true, true, true, true, true, false, false] rfl rfl (any_of HT_.out (by kernel_rfl)) (fun _ _ _ h => h) (Or.inl ⟨by rfl, ?_⟩) ?_ ?_
       rotate_left
       ·intro w'
        go_simp
        with_reducible rfl
       rotate_left
       ·simp only [Act.put, List.setIfInBounds_toArray, List.set_cons_zero, List.set_cons_succ, i64_w, i32_w]
        rfl
       exact norm_ (by simp only [putAll, Act.put, List.setIfInBounds_toArray, List.set_cons_zero, List.set_cons_succ]) (hCont (v226, gb229) _ ⟨hHeld, HO227.out, BK218.out, BK219.out, BK229.out, GW229.out, GE229.out, NB218_229.out, NB229_218.out, NB219_229.out, NB229_219.out, HB.out⟩)
     rintro ⟨v226, gb229⟩ w30 ⟨hS_, h0_, h1_, h2_, h3_, h4_, h5_, h6_, h7_, h8_, h9_, h10_⟩
     have n0_ : Aside0 (Kd.R k67 67 w30 w.heap.size (fun _ => True) v226 t225) := ⟨h0_⟩
     have n1_ : Aside0 (w30.heap[gb218]? = some (.cells #[.slice A0_0 l0_0.length c0_0] 29 (0, 0))) := ⟨h1_⟩
     have n2_ : Aside0 (w30.heap[gb219]? = some (.cells #[.slice none 0 0] 29 (0, 0))) := ⟨h2_⟩
     have n3_ : Aside0 (w30.heap[gb229]? = some (.cells #[.slice none 0 0] 29 (0, 0))) := ⟨h3_⟩
     have n4_ : Aside0 (w.heap.size ≤ gb229) := ⟨h4_⟩
     have n5_ : Aside0 (w.heap.size ≤ gb229) := ⟨h5_⟩
     have n6_ : Aside0 (gb218 ≠ gb229) := ⟨h6_⟩
     have n7_ : Aside0 (gb229 ≠ gb218) := ⟨h7_⟩
     have n8_ : Aside0 (gb219 ≠ gb229) := ⟨h8_⟩
     have n9_ : Aside0 (gb229 ≠ gb219) := ⟨h9_⟩
     have n10_ : Aside0 (Below w.heap.size w w30) := ⟨h10_⟩
     clear BK218 BK219 HB h0_ h1_ h2_ h3_ h4_ h5_ h6_ h7_ h8_ h9_ h10_
     have HO227 := n0_; have BK218 := n1_; have BK219 := n2_; have BK229 := n3_; have GW229 := n4_; have GE229 := n5_; have NB218_229 := n6_; have NB229_218 := n7_; have NB219_229 := n8_; have NB229_219 := n9_; have HB := n10_
     clear n0_ n1_ n2_ n3_ n4_ n5_ n6_ n7_ n8_ n9_ n10_
     have hHeld : w30.cell? ⟨gb218, 0, none⟩ = some (.slice A0_0 l0_0.length c0_0) := hS_
     obtain ⟨Ao31, co31, eo31⟩ := Kd.R_slice HO227.out
     (first | subst eo31 | (injection eo31 with f1_ f2_ f3_; have f4_ := f1_.symm; have f5_ := f3_.symm; clear f1_ f2_ f3_; subst f4_; subst f5_))
     refine norm_ (a' := ?_) ?_ ?_
     rotate_left
     ·simp only [putAll, Act.put, List.setIfInBounds_toArray, List.set_cons_zero, List.set_cons_succ]
      rfl
     refine one_ (i := 9) (N := none) #[true, true, true, true, true, true, true, true, true, true, false] rfl rfl (one_of HT_.out (by kernel_rfl)) (by decide) (fun K hK => ?_)
     have hs32 : w30.cell? ⟨gb229, 0, none⟩ = some (.slice none 0 0) := (blk_cell BK229.out 0).trans rfl
     have hfs32 := blk_frozen BK229.out 0
     have hns32_0 := NB218_229.out; have hns32_1 := NB219_229.out; have hms32_0 := NB229_218.out; have hms32_1 := NB229_219.out
     refine skip_ (w1 := ?_) (by rfl) rfl ?_ ?_
     rotate_left
     ·go_simp
      rfl
     refine hK.out _ _ (((cell_far (p := ⟨gb229, _, none⟩) NB218_229.out _).trans (hHeld))) (fun hHeld => ?_)
     clear hK K
     refine pure_ (i := 10) (N := some 11) (v := ?_) (a' := ?_) #[true, true, true, true, true, true, true, true, true, true, true] rfl rfl (any_of HT_.out (by kernel_rfl)) (fun _ _ _ h => h) (Or.inl ⟨by rfl, ?_⟩) ?_ ?_
     rotate_left
     ·intro w'
      go_simp
      with_reducible rfl
     rotate_left
     ·simp only [Act.put, List.setIfInBounds_toArray, List.set_cons_zero, List.set_cons_succ, i64_w, i32_w]
      rfl
     refine done_ (done_of HT_.out (by kernel_rfl)) ?_
     have hnb33 := NB229_218.out; have hnc33 := NB218_229.out; have hnb34 := NB229_219.out; have hnc34 := NB219_229.out
     have hcz35_0 : w30.cell? ⟨gb229, 0, none⟩ = some (.slice none 0 0) := (blk_cell BK229.out 0).trans rfl
     have hfz35_0 := blk_frozen BK229.out 0
     try go_wp2_with (first | ((with_reducible refine gate_callee (f := 33) rfl ?_); refine goesL_ (some 32) rfl rfl Try.func33 (by kernel_rfl) rfl #[.agg #[.slice Ao31 t225.length co31], .slice A3 l3.length c3] rfl (by (try simp only [List.map_toArray, List.map_cons, List.map_nil]); first | done | rfl | (simp only [List.length_drop, List.length_take]; rfl)) ?_; (with_reducible refine (spec_LoseDisk.calls k _ _ t225 _ _ l3 t230 t233 _ ?side1 ?side2 ?side3 ?side4 A23.out).mono ?_); (case side1 => refine (Kd.R_reads' (e := 67) (base := w.heap.size) (ok := fun k_ => True) (n := t225.length) (c := co31) ?_).2.2; exact (by (with_reducible repeat (first | apply Kd.R_alloc | apply Kd.R_drewN | apply Kd.R_drew)); exact (Kd.R_mono (Kd.R_far (p := ⟨gb229, 0, none⟩) (Kd.R_types HO227.out BK229.out (by decide)) (fun _ hk => hk.2) (.slice Ao31 t225.length co31)) (fun _ h_ => h_.1)))); (case side2 => exact (Kd.R_reads' HO227.out).2.1); (case side3 => exact Kd.C_below HR3.out (hh_ HB)); (case side4 => exact HC3.out); rintro e w36 ⟨v231, rfl, ho0, hb⟩; refine ⟨_, rfl, ?_⟩; have n0_ := Aside0.mk (Kd.R_elder' (by (with_reducible repeat (first | apply Kd.R_alloc | apply Kd.R_drewN | apply Kd.R_drew)); exact (Kd.R_mono (Kd.R_far (p := ⟨gb229, 0, none⟩) (Kd.R_types HO227.out BK229.out (by decide)) (fun _ hk => hk.2) (.slice Ao31 t225.length co31)) (fun _ h_ => h_.1))) (Kd.R_base ho0) hb); have n1_ := Aside0.mk (Kd.R_lower (Kd.R_new' ho0 (Kd.R_lt (by (with_reducible repeat (first | apply Kd.R_alloc | apply Kd.R_drewN | apply Kd.R_drew)); exact (Kd.R_mono (Kd.R_far (p := ⟨gb229, 0, none⟩) (Kd.R_types HO227.out BK229.out (by decide)) (fun _ hk => hk.2) (.slice Ao31 t225.length co31)) (fun _ h_ => h_.1))))) (below_size (hh_ HB))); have n2_ := Aside0.mk (blk_below (g := gb218) (o := .cells #[.slice A0_0 l0_0.length c0_0] 29 (0, 0)) (by (with_reducible repeat (first | refine blk_drewN ?_ _ | refine blk_drew ?_ | refine blk_alloc ?_ _)); refine blk_far ?_ NB218_229.out _; exact bb_ BK218) hb); have n3_ := Aside0.mk (blk_below (g := gb219) (o := .cells #[.slice none 0 0] 29 (0, 0)) (by (with_reducible repeat (first | refine blk_drewN ?_ _ | refine blk_drew ?_ | refine blk_alloc ?_ _)); refine blk_far ?_ NB219_229.out _; exact bb_ BK219) hb); have n4_ := Aside0.mk (blk_below (g := gb229) (o := .cells #[.slice Ao31 t225.length co31] 29 (0, 0)) (by (with_reducible repeat (first | refine blk_drewN ?_ _ | refine blk_drew ?_ | refine blk_alloc ?_ _)); refine blk_put (cs := #[.slice none 0 0]) ?_ 0 _ rfl; exact bb_ BK229) hb); have n5_ := Aside0.mk (below_step (hh_ HB) hb); clear HO227; clear BK218; clear BK219; clear BK229; clear HB; have HO227 := n0_; have HO232 := n1_; have BK218 := n2_; have BK219 := n3_; have BK229 := n4_; have HB := n5_; clear n0_ n1_ n2_ n3_ n4_ n5_; (try clear hb); (try clear hb2); (try clear hk); (try clear hi); (try clear ho0); obtain ⟨Ao37, co37, eo37⟩ := Kd.R_slice HO232.out; subst eo37; have hnb38 := NB219_218.out; have hnc38 := NB218_219.out; have hcz39_0 : w36.cell? ⟨gb219, 0, none⟩ = some (.slice none 0 0) := (blk_cell BK219.out 0).trans rfl; have hfz39_0 := blk_frozen BK219.out 0))
     refine bodyPost_ret (results_ct rfl _ _ gb219 29 #[.slice Ao37 t230.length co37] (0, 0) _ rfl (by (with_reducible repeat (first | refine blk_drewN ?_ _ | refine blk_drew ?_ | refine blk_alloc ?_ _)); refine blk_put (cs := #[.slice none 0 0]) ?_ 0 _ rfl; exact bb_ BK219) Try.underlying29 rfl (by kernel_rfl)) rfl ?_
     exact ⟨_, by first | rfl | (simp [errW_none, errW_some] <;> rfl) | (simp [*, errW_none, errW_some] <;> rfl), by (with_reducible repeat (first | apply Kd.R_alloc | apply Kd.R_drewN | apply Kd.R_drew)); exact Kd.R_mono (Kd.R_far (p := ⟨gb219, 0, none⟩) (Kd.R_types HO232.out BK219.out (by decide)) (fun _ hk => hk.2) (.slice Ao37 t230.length co37)) (fun _ hk => trivial), by repeat (first | (with_reducible first | exact HB.out | apply below_alloc | apply pw_below_drewN | apply below_drew1 | refine below_set ?_ GE218.out | refine below_set ?_ GE219.out | refine below_set ?_ GE229.out) | exact HB.out)⟩
   ·rw [if_neg c8] at H
    exact absurd H (by simp)
  ·rw [if_neg c7] at H
   exact absurd H (by simp)
 ·replace c6 := Bool.eq_false_iff.mpr c6
  subst c6
  have H1 : (some (([] : List (S67)), false)) = some (r1, r2) := by rw [if_neg (show ¬ (false = true) by decide)] at H; exact H
  clear H
  have H := H1
  clear H1
  simp only [Option.some.injEq, Prod.mk.injEq] at H
  obtain ⟨rfl, rfl⟩ := H
  go_enter Try.func38, Try.ntmps38
  go_wp2_with (first | ((with_reducible refine gate_dst (N := 4) rfl ?_); refine box_event ?hg (N := 4) ?hd (cs := #[.slice A0_0 l0_0.length c0_0]) (t := 29) ?hr ?_; (case hd => rfl); (case hg => rfl); (case hr => first | (go_simp; done) | (go_simp; rfl)); intro gb218 hg w40 hbox hb; have n0_ := Aside0.mk (below_step (hh_ HB) hb); have n1_ := Aside0.mk (hbox); have n2_ := Aside0.mk ((by rw [hg]; exact (below_size (hh_ HB)) : w.heap.size ≤ gb218)); have n3_ := n2_; clear HB; have HB := n0_; have BK218 := n1_; have GW218 := n2_; have GE218 := n3_; clear n0_ n1_ n2_ n3_; clear hb hbox hg) | ((with_reducible refine gate_dst (N := 8) rfl ?_); refine box_event ?hg (N := 8) ?hd (cs := #[.slice none 0 0]) (t := 29) ?hr ?_; (case hd => rfl); (case hg => rfl); (case hr => first | (go_simp; done) | (go_simp; rfl)); intro gb219 hg w41 hbox hb; have n0_ := Aside0.mk (blk_below (bb_ BK218) hb); have n1_ := Aside0.mk (below_step (hh_ HB) hb); have n2_ := Aside0.mk (hbox); have n3_ := Aside0.mk ((by rw [hg]; exact (below_size (hh_ HB)) : w.heap.size ≤ gb219)); have n4_ := n3_; have n5_ := Aside0.mk ((by rw [hg]; exact Nat.ne_of_lt (blk_lt (bb_ BK218)) : gb218 ≠ gb219)); have n6_ := Aside0.mk ((by rw [hg]; exact Nat.ne_of_gt (blk_lt (bb_ BK218)) : gb219 ≠ gb218)); clear BK218; clear HB; have BK218 := n0_; have HB := n1_; have BK219 := n2_; have GW219 := n3_; have GE219 := n4_; have NB218_219 := n5_; have NB219_218 := n6_; clear n0_ n1_ n2_ n3_ n4_ n5_ n6_; clear hb hbox hg) | ((with_reducible refine gate_callee (f := 49) rfl ?_); refine goesL_ (some 15) rfl rfl Try.func49 (by kernel_rfl) rfl #[.int .i64 a2, .int .i64 0, .int .i64 (l1.length : Int)] rfl (by (try simp only [List.map_toArray, List.map_cons, List.map_nil]); first | done | rfl | (simp only [List.length_drop, List.length_take]; rfl)) ?_; (with_reducible refine (spec_l01In.calls a2 0 (l1.length : Int) false _ A5.out).mono ?_); rintro e w' ⟨rfl, ⟨nd, rfl⟩⟩; refine ⟨_, rfl, ?_⟩; (try (rw [drewN_self w41]; generalize hq_ : World.drewN w41 _ = w41; have n0_ : Aside0 (w41.heap[gb218]? = some (.cells #[.slice A0_0 l0_0.length c0_0] 29 (0, 0))) := ⟨by rw [← hq_]; exact (bb_ BK218)⟩; have n1_ : Aside0 (w41.heap[gb219]? = some (.cells #[.slice none 0 0] 29 (0, 0))) := ⟨by rw [← hq_]; exact (bb_ BK219)⟩; have n2_ : Aside0 (Below w.heap.size w w41) := ⟨by rw [← hq_]; exact (hh_ HB)⟩; clear BK218 BK219 HB hq_; have BK218 := n0_; have BK219 := n1_; have HB := n2_; clear n0_ n1_ n2_)); have hnb42 := NB219_218.out; have hnc42 := NB218_219.out; have hcz43_0 : w41.cell? ⟨gb219, 0, none⟩ = some (.slice none 0 0) := (blk_cell BK219.out 0).trans rfl; have hfz43_0 := blk_frozen BK219.out 0))
  refine bodyPost_ret (results_ct rfl _ _ gb219 29 #[.slice none 0 0] (0, 0) _ rfl (by (with_reducible repeat (first | refine blk_drewN ?_ _ | refine blk_drew ?_ | refine blk_alloc ?_ _)); refine blk_put (cs := #[.slice none 0 0]) ?_ 0 _ rfl; exact bb_ BK219) Try.underlying29 rfl (by kernel_rfl)) rfl ?_
  exact ⟨_, by first | rfl | (simp [errW_none, errW_some] <;> rfl) | (simp [*, errW_none, errW_some] <;> rfl), by first | exact Kd.R_nil _ _ _ _ _ | exact Kd.N_nil _ _ _ _ _ | exact Kd.V_nil _ _ _ _ _ | exact Kd.Q_nil _ _ _ _ _ | exact Kd.S_nil _ _ _ _ _, by repeat (first | (with_reducible first | exact HB.out | apply below_alloc | apply pw_below_drewN | apply below_drew1 | refine below_set ?_ GE218.out | refine below_set ?_ GE219.out) | exact HB.out)⟩

/-! ### impl_DoAct: function 24 -/
def impl_DoAct.f (l0_0 : List (S67)) (a1_0 : Int) (a1_1 : ByteArray) (a1_2 : ByteArray) (a1_3 : ByteArray) : Option (List (S67) × Bool) := if l0_0.length ≤ 2000000 ∧ a1_2.size ≤ 4000000000 then some (doA l0_0 a1_0 a1_1 a1_2 a1_3) else none
theorem impl_DoAct.calls (A0_0 : Option Addr) (c0_0 : Nat) (l0_0 : List (S67)) (a1_0 : Int) (a1_1 : ByteArray) (a1_2 : ByteArray) (a1_3 : ByteArray) (r1 : List (S67)) (r2 : Bool) (w : World) (hr0_0 : Kd.C k67 w A0_0 l0_0.length l0_0) (hc0_0 : l0_0.length ≤ c0_0) (h : impl_DoAct.f l0_0 a1_0 a1_1 a1_2 a1_3 = some (r1, r2)) :
    Calls Try.prog 24 #[.agg #[.slice A0_0 l0_0.length c0_0], .agg #[.int .i64 a1_0, .string a1_1, .string a1_2, .string a1_3]] w fun e w' => ∃ v0_ : Value, e = .returned (.tuple #[.agg #[v0_], .bool r2]) ∧ Kd.R k67 67 w' w.heap.size (fun _ => True) v0_ r1 ∧ Below w.heap.size w w' := by
  unfold impl_DoAct.f at h
  split at h
  · rename_i b
    have h2 := Option.some.inj h
    have := idoact A0_0 c0_0 l0_0 a1_0 a1_1 a1_2 a1_3 w hr0_0 hc0_0 b.1 b.2
    rw [h2] at this
    exact this
  · cases h


/-! ### impl_copyDisk: function 57 -/
def impl_copyDisk.f (l0_0 : List (S67)) : Option (List (S67)) := if l0_0.length * 40 ≤ 140737488355328 then some l0_0 else none
theorem impl_copyDisk.calls (A0_0 : Option Addr) (c0_0 : Nat) (l0_0 : List (S67)) (r : List (S67)) (w : World) (hr0_0 : Kd.C k67 w A0_0 l0_0.length l0_0) (hc0_0 : l0_0.length ≤ c0_0) (h : impl_copyDisk.f l0_0 = some r) :
    Calls Try.prog 57 #[.agg #[.slice A0_0 l0_0.length c0_0]] w fun e w' => ∃ v0_ : Value, e = .returned (.agg #[v0_]) ∧ Kd.R k67 67 w' w.heap.size (fun _ => True) v0_ r ∧ Below w.heap.size w w' := by
  unfold impl_copyDisk.f at h
  split at h
  · rename_i b
    have h2 := Option.some.inj h
    have := copy_walk A0_0 c0_0 l0_0 w hr0_0 hc0_0 b
    subst h2
    exact this
  · cases h


/-! ### impl_DoActs: function 30 -/
def impl_DoActs.l0 : Nat → List (S41) → List (S41) → Int → Int → List (S67) → Option ((List (S67)) × Int)
 | 0, _, _, _, _, _ => none
 | k + 1, x1, x13, x14, x15, x240000 => if x15 < x14 then (if 0 ≤ x15 then (if x15 < (x13.length : Int) then ((impl_DoAct.f x240000 ((rd_T41 x13 x15).f0) ((rd_T41 x13 x15).f1) ((rd_T41 x13 x15).f2) ((rd_T41 x13 x15).f3)).bind fun bt242 => (if bt242.2 = true then (impl_DoActs.l0 k x1 x13 x14 (wrap64 (x15 + 1)) bt242.1) else (some (x240000, x15)))) else (none)) else (none)) else (some (x240000, (x1.length : Int)))
def impl_DoActs.f (k : Nat) (l0_0 : List (S67)) (l1 : List (S41)) : Option ((List (S67)) × Int) := (impl_copyDisk.f l0_0).bind fun t236 => (impl_DoActs.l0 k l1 l1 (l1.length : Int) 0 t236)
theorem impl_DoActs.mono_l : ∀ k, (∀ y0 y1 y2 y3 y4, LeO (impl_DoActs.l0 k y0 y1 y2 y3 y4) (impl_DoActs.l0 (k + 1) y0 y1 y2 y3 y4))
 | 0 => fun _ _ _ _ _ r h => by simp [impl_DoActs.l0] at h
 | k + 1 => by
  have ih0 := impl_DoActs.mono_l k
  ·intro y0 y1 y2 y3 y4
   unfold impl_DoActs.l0
   repeat' first
   | (with_reducible exact ih0 _ _ _ _ _)
   | (with_reducible exact LeO.refl _)
   | (with_reducible exact LeO.none _)
   | (with_reducible refine LeO.ite ?_ ?_)
   | (with_reducible refine LeO.bind ?_ (fun _ => ?_))
   | exact ih0 _ _ _ _ _
   | exact LeO.none _
   | refine LeO.ite ?_ ?_
   | refine LeO.bind ?_ (fun _ => ?_)
theorem impl_DoActs.mono : ∀ a0 a1 k, LeO (impl_DoActs.f k a0 a1) (impl_DoActs.f (k + 1) a0 a1) := by
 intro a0 a1 k
 have ih0 := impl_DoActs.mono_l k
 unfold impl_DoActs.f
 repeat' first
   | (with_reducible exact ih0 _ _ _ _ _)
   | (with_reducible exact LeO.refl _)
   | (with_reducible exact LeO.none _)
   | (with_reducible refine LeO.ite ?_ ?_)
   | (with_reducible refine LeO.bind ?_ (fun _ => ?_))
   | exact ih0 _ _ _ _ _
   | exact LeO.none _
   | refine LeO.ite ?_ ?_
   | refine LeO.bind ?_ (fun _ => ?_)
set_option maxHeartbeats 8000000 in
set_option maxRecDepth 100000 in
theorem impl_DoActs.calls (k : Nat) (A0_0 : Option Addr) (c0_0 : Nat) (l0_0 : List (S67)) (A1 : Option Addr) (c1 : Nat) (l1 : List (S41)) (r1 : List (S67)) (r2 : Int) (w : World) (hr0_0 : Kd.C k67 w A0_0 l0_0.length l0_0) (hc0_0 : l0_0.length ≤ c0_0) (hr1 : Kd.C k41 w A1 l1.length l1) (hc1 : l1.length ≤ c1) (h : impl_DoActs.f k l0_0 l1 = some (r1, r2)) :
  Calls Try.prog 30 #[.agg #[.slice A0_0 l0_0.length c0_0], .slice A1 l1.length c1] w fun e w' => ∃ v0_ : Value, e = .returned (.tuple #[.agg #[v0_], .int .i64 r2]) ∧ Kd.R k67 67 w' w.heap.size (fun _ => True) v0_ r1 ∧ Below w.heap.size w w' := by
 have hu29 := Try.underlying29
 have hu41 := Try.underlying41
 have HR0_0 := Aside0.mk hr0_0
 have HC0_0 := Aside0.mk hc0_0
 clear hr0_0 hc0_0
 have HR1 := Aside0.mk hr1
 have HC1 := Aside0.mk hc1
 clear hr1 hc1
 have HB := Aside0.mk (Below.refl w.heap.size w)
 have H : ((impl_copyDisk.f l0_0).bind fun t236 => (impl_DoActs.l0 k l1 l1 (l1.length : Int) 0 t236)) = some (r1, r2) := h
 clear h
 replace H := Option.bind_eq_some_iff.mp H
 obtain ⟨t236, A30, H⟩ := H
 replace H : (impl_DoActs.l0 k l1 l1 (l1.length : Int) 0 t236) = some (r1, r2) := H
 have A3 := Aside0.mk A30
 clear A30
 have H' := Aside0.mk H
 clear H
 go_enter Try.func30, Try.ntmps30
 go_wp2_with (first | ((with_reducible refine gate_dst (N := 2) rfl ?_); refine box_event ?hg (N := 2) ?hd (cs := #[.slice A0_0 l0_0.length c0_0]) (t := 29) ?hr ?_; (case hd => rfl); (case hg => rfl); (case hr => first | (go_simp; done) | (go_simp; rfl)); intro gb234 hg w4 hbox hb; have n0_ := Aside0.mk (below_step (hh_ HB) hb); have n1_ := Aside0.mk (hbox); have n2_ := Aside0.mk ((by rw [hg]; exact (below_size (hh_ HB)) : w.heap.size ≤ gb234)); have n3_ := n2_; clear HB; have HB := n0_; have BK234 := n1_; have GW234 := n2_; have GE234 := n3_; clear n0_ n1_ n2_ n3_; clear hb hbox hg) | ((with_reducible refine gate_dst (N := 4) rfl ?_); refine box_event ?hg (N := 4) ?hd (cs := #[.slice none 0 0]) (t := 29) ?hr ?_; (case hd => rfl); (case hg => rfl); (case hr => first | (go_simp; done) | (go_simp; rfl)); intro gb235 hg w5 hbox hb; have n0_ := Aside0.mk (blk_below (bb_ BK234) hb); have n1_ := Aside0.mk (below_step (hh_ HB) hb); have n2_ := Aside0.mk (hbox); have n3_ := Aside0.mk ((by rw [hg]; exact (below_size (hh_ HB)) : w.heap.size ≤ gb235)); have n4_ := n3_; have n5_ := Aside0.mk ((by rw [hg]; exact Nat.ne_of_lt (blk_lt (bb_ BK234)) : gb234 ≠ gb235)); have n6_ := Aside0.mk ((by rw [hg]; exact Nat.ne_of_gt (blk_lt (bb_ BK234)) : gb235 ≠ gb234)); clear BK234; clear HB; have BK234 := n0_; have HB := n1_; have BK235 := n2_; have GW235 := n3_; have GE235 := n4_; have NB234_235 := n5_; have NB235_234 := n6_; clear n0_ n1_ n2_ n3_ n4_ n5_ n6_; clear hb hbox hg; have hnb6 := NB234_235.out; have hnc6 := NB235_234.out; have hcz7_0 : w5.cell? ⟨gb234, 0, none⟩ = some (.slice A0_0 l0_0.length c0_0) := (blk_cell BK234.out 0).trans rfl; have hfz7_0 := blk_frozen BK234.out 0) | ((with_reducible refine gate_callee (f := 57) rfl ?_); refine goesL_ (some 12) rfl rfl Try.func57 (by kernel_rfl) rfl #[.agg #[.slice A0_0 l0_0.length c0_0]] rfl (by (try simp only [List.map_toArray, List.map_cons, List.map_nil]); first | done | rfl | (simp only [List.length_drop, List.length_take]; rfl)) ?_; (with_reducible refine (impl_copyDisk.calls _ _ l0_0 t236 _ ?side1 ?side2 A3.out).mono ?_); (case side1 => repeat (first | exact (Kd.C_below HR0_0.out HB.out) | (with_reducible refine Kd.C_alloc ?_ _) | (with_reducible refine Kd.C_drewN ?_ _) | (with_reducible refine Kd.C_drew ?_))); (case side2 => exact HC0_0.out); rintro e w8 ⟨v237, rfl, ho0, hb⟩; refine ⟨_, rfl, ?_⟩; have n0_ := Aside0.mk (Kd.R_lower ho0 (below_size (hh_ HB))); have n1_ := Aside0.mk (blk_below (bb_ BK234) hb); have n2_ := Aside0.mk (blk_below (bb_ BK235) hb); have n3_ := Aside0.mk (below_step (hh_ HB) hb); clear BK234; clear BK235; clear HB; have HO238 := n0_; have BK234 := n1_; have BK235 := n2_; have HB := n3_; clear n0_ n1_ n2_ n3_; (try clear hb); (try clear hb2); (try clear hk); (try clear hi); (try clear ho0)) | ((with_reducible refine gate_dst (N := 6) rfl ?_); refine box_event ?hg (N := 6) ?hd (cs := #[.slice none 0 0]) (t := 29) ?hr ?_; (case hd => rfl); (case hg => rfl); (case hr => first | (go_simp; done) | (go_simp; rfl)); intro gb239 hg w9 hbox hb; have n0_ := Aside0.mk (Kd.R_below (rr_ HO238) hb); have n1_ := Aside0.mk (blk_below (bb_ BK234) hb); have n2_ := Aside0.mk (blk_below (bb_ BK235) hb); have n3_ := Aside0.mk (below_step (hh_ HB) hb); have n4_ := Aside0.mk (hbox); have n5_ := Aside0.mk ((by rw [hg]; exact (below_size (hh_ HB)) : w.heap.size ≤ gb239)); have n6_ := n5_; have n7_ := Aside0.mk ((by rw [hg]; exact Nat.ne_of_lt (blk_lt (bb_ BK234)) : gb234 ≠ gb239)); have n8_ := Aside0.mk ((by rw [hg]; exact Nat.ne_of_gt (blk_lt (bb_ BK234)) : gb239 ≠ gb234)); have n9_ := Aside0.mk ((by rw [hg]; exact Nat.ne_of_lt (blk_lt (bb_ BK235)) : gb235 ≠ gb239)); have n10_ := Aside0.mk ((by rw [hg]; exact Nat.ne_of_gt (blk_lt (bb_ BK235)) : gb239 ≠ gb235)); clear HO238; clear BK234; clear BK235; clear HB; have HO238 := n0_; have BK234 := n1_; have BK235 := n2_; have HB := n3_; have BK239 := n4_; have GW239 := n5_; have GE239 := n6_; have NB234_239 := n7_; have NB239_234 := n8_; have NB235_239 := n9_; have NB239_235 := n10_; clear n0_ n1_ n2_ n3_ n4_ n5_ n6_ n7_ n8_ n9_ n10_; clear hb hbox hg; obtain ⟨Ao10, co10, eo10⟩ := Kd.R_slice HO238.out; subst eo10; have hnb11 := NB239_234.out; have hnc11 := NB234_239.out; have hnb12 := NB239_235.out; have hnc12 := NB235_239.out; have hcz13_0 : w9.cell? ⟨gb239, 0, none⟩ = some (.slice none 0 0) := (blk_cell BK239.out 0).trans rfl; have hfz13_0 := blk_frozen BK239.out 0))
 go_loopg [15] k (fun kq v15 w' => ∃ (x15_1 : Int) (x240000_1 : List (S67)) (u240000 : Value), v15 = .int .i64 x15_1 ∧ Aside0 (impl_DoActs.l0 kq l1 l1 (l1.length : Int) x15_1 x240000_1 = some (r1, r2)) ∧ Aside0 (kq ≤ k) ∧ Aside0 (Kd.R k67 67 w' w.heap.size (fun _ => True) u240000 x240000_1) ∧ Aside0 (w'.heap[gb234]? = some (.cells #[(.slice A0_0 l0_0.length c0_0)] 29 (0, 0))) ∧ Aside0 (w'.heap[gb235]? = some (.cells #[(.slice none 0 0)] 29 (0, 0))) ∧ Aside0 (w'.heap[gb239]? = some (.cells #[u240000] 29 (0, 0))) ∧ Aside0 (Below w.heap.size w w'))
 case atStart => exact ⟨(0), (t236), (.slice Ao10 t236.length co10), (by first | rfl | (simp; done) | (simp [*]; done)), H', ⟨Nat.le_refl _⟩, ⟨by (with_reducible repeat (first | apply Kd.R_alloc | apply Kd.R_drewN | apply Kd.R_drew)); exact Kd.R_mono (Kd.R_far (p := ⟨gb239, 0, none⟩) (Kd.R_types HO238.out BK239.out (by decide)) (fun _ hk => hk.2) (.slice Ao10 t236.length co10)) (fun _ hk => trivial)⟩, ⟨by (with_reducible repeat (first | refine blk_drewN ?_ _ | refine blk_drew ?_ | refine blk_alloc ?_ _)); refine blk_far ?_ NB234_239.out _; exact bb_ BK234⟩, ⟨by (with_reducible repeat (first | refine blk_drewN ?_ _ | refine blk_drew ?_ | refine blk_alloc ?_ _)); refine blk_far ?_ NB235_239.out _; exact bb_ BK235⟩, ⟨by (with_reducible repeat (first | refine blk_drewN ?_ _ | refine blk_drew ?_ | refine blk_alloc ?_ _)); refine blk_put (cs := #[.slice none 0 0]) ?_ 0 _ rfl; exact bb_ BK239⟩, ⟨hh_ HB⟩⟩
 case round =>
  clear H'
  try clear c1
  try clear p2
  try clear c3
  try clear c5
  try clear c6
  try clear c11
  try clear c12
  try clear hcz13_0
  try clear hcz7_0
  try clear hfz13_0
  try clear hfz7_0
  obtain ⟨x15_1, x240000_1, u240000, rfl, HA, HK1, HO_240000, BK234, BK235, BK239, HB⟩ := hrel
  cases gk with
  | zero => exact absurd HA.out (by simp [impl_DoActs.l0])
  | succ k1 =>
   have H := HA.out
   clear HA
   simp only [impl_DoActs.l0] at H
   by_cases c14 : x15_1 < (l1.length : Int)
   ·rw [if_pos c14] at H
    have c14b0 : decide (x15_1 < (l1.length : Int)) = true := decide_eq_true c14
    clear c14
    by_cases c15 : 0 ≤ x15_1
    ·rw [if_pos c15] at H
     have c15b0 : decide (0 ≤ x15_1) = true := decide_eq_true c15
     clear c15
     by_cases c16 : x15_1 < (l1.length : Int)
     ·rw [if_pos c16] at H
      have c16b0 : decide (x15_1 < (l1.length : Int)) = true := decide_eq_true c16
      clear c16
      replace H := Option.bind_eq_some_iff.mp H
      obtain ⟨⟨t242, t245⟩, A170, H⟩ := H
      replace H : (if t245 = true then (impl_DoActs.l0 k1 l1 l1 (l1.length : Int) (wrap64 (x15_1 + 1)) t242) else (some (x240000_1, x15_1))) = some (r1, r2) := H
      have A17 := Aside0.mk A170
      clear A170
      by_cases c18 : t245 = true
      ·subst c18
       have H1 : (impl_DoActs.l0 k1 l1 l1 (l1.length : Int) (wrap64 (x15_1 + 1)) t242) = some (r1, r2) := by rw [if_pos rfl] at H; exact H
       clear H
       have H := H1
       clear H1
       have H' := Aside0.mk H
       clear H
       have p240 : 0 ≤ (x15_1 : Int) := of_decide_eq_true (by first | (with_reducible assumption) | assumption)
       have q240 : x15_1 < (l1.length : Int) := of_decide_eq_true (by first | (with_reducible assumption) | assumption)
       obtain ⟨ad240, e240, hx240_0, hx240_1, hx240_2, hx240_3⟩ := at_T41 HR1.out x15_1 p240 q240
       cases e240
       replace hx240_0 := (HB.out.cell (World.block_lt_of_cell? w _ hx240_0)).trans hx240_0
       replace hx240_1 := (HB.out.cell (World.block_lt_of_cell? w _ hx240_1)).trans hx240_1
       replace hx240_2 := (HB.out.cell (World.block_lt_of_cell? w _ hx240_2)).trans hx240_2
       replace hx240_3 := (HB.out.cell (World.block_lt_of_cell? w _ hx240_3)).trans hx240_3
       replace p240 := eq_true p240
       replace q240 := eq_true q240
       go_wp2_with (first | ((with_reducible refine gate_dst (N := 8) rfl ?_); refine box_event ?hg (N := 8) ?hd (cs := #[.int .i64 0, .string (⟨#[]⟩ : ByteArray), .string (⟨#[]⟩ : ByteArray), .string (⟨#[]⟩ : ByteArray)]) (t := 41) ?hr ?_; (case hd => rfl); (case hg => rfl); (case hr => first | (go_simp; done) | (go_simp; rfl)); intro gb241 hg w19 hbox hb; have n0_ := Aside0.mk (Kd.R_below (rr_ HO_240000) hb); have n1_ := Aside0.mk (blk_below (bb_ BK234) hb); have n2_ := Aside0.mk (blk_below (bb_ BK235) hb); have n3_ := Aside0.mk (blk_below (bb_ BK239) hb); have n4_ := Aside0.mk (below_step (hh_ HB) hb); have n5_ := Aside0.mk (hbox); have n6_ := Aside0.mk ((by rw [hg]; exact (below_size (hh_ HB)) : w.heap.size ≤ gb241)); have n7_ := n6_; have n8_ := Aside0.mk ((by rw [hg]; exact Nat.ne_of_lt (blk_lt (bb_ BK234)) : gb234 ≠ gb241)); have n9_ := Aside0.mk ((by rw [hg]; exact Nat.ne_of_gt (blk_lt (bb_ BK234)) : gb241 ≠ gb234)); have n10_ := Aside0.mk ((by rw [hg]; exact Nat.ne_of_lt (blk_lt (bb_ BK235)) : gb235 ≠ gb241)); have n11_ := Aside0.mk ((by rw [hg]; exact Nat.ne_of_gt (blk_lt (bb_ BK235)) : gb241 ≠ gb235)); have n12_ := Aside0.mk ((by rw [hg]; exact Nat.ne_of_lt (blk_lt (bb_ BK239)) : gb239 ≠ gb241)); have n13_ := Aside0.mk ((by rw [hg]; exact Nat.ne_of_gt (blk_lt (bb_ BK239)) : gb241 ≠ gb239)); clear HO_240000; clear BK234; clear BK235; clear BK239; clear HB; have HO_240000 := n0_; have BK234 := n1_; have BK235 := n2_; have BK239 := n3_; have HB := n4_; have BK241 := n5_; have GW241 := n6_; have GE241 := n7_; have NB234_241 := n8_; have NB241_234 := n9_; have NB235_241 := n10_; have NB241_235 := n11_; have NB239_241 := n12_; have NB241_239 := n13_; clear n0_ n1_ n2_ n3_ n4_ n5_ n6_ n7_ n8_ n9_ n10_ n11_ n12_ n13_; clear hb hbox hg; have hnb20 := NB241_234.out; have hnc20 := NB234_241.out; have hnb21 := NB241_235.out; have hnc21 := NB235_241.out; have hnb22 := NB241_239.out; have hnc22 := NB239_241.out; have hcz23_0 : w19.cell? ⟨gb241, 0, none⟩ = some (.int .i64 0) := (blk_cell BK241.out 0).trans rfl; have hcz23_1 : w19.cell? ⟨gb241, 1, none⟩ = some (.string (⟨#[]⟩ : ByteArray)) := (blk_cell BK241.out 1).trans rfl; have hcz23_2 : w19.cell? ⟨gb241, 2, none⟩ = some (.string (⟨#[]⟩ : ByteArray)) := (blk_cell BK241.out 2).trans rfl; have hcz23_3 : w19.cell? ⟨gb241, 3, none⟩ = some (.string (⟨#[]⟩ : ByteArray)) := (blk_cell BK241.out 3).trans rfl; have hfz23_0 := blk_frozen BK241.out 0; have hfz23_1 := blk_frozen BK241.out 1; have hfz23_2 := blk_frozen BK241.out 2; have hfz23_3 := blk_frozen BK241.out 3; have hnb24 := NB239_234.out; have hnc24 := NB234_239.out; have hnb25 := NB239_235.out; have hnc25 := NB235_239.out; have hcz26_0 : w19.cell? ⟨gb239, 0, none⟩ = some (u240000) := (blk_cell BK239.out 0).trans rfl; have hfz26_0 := blk_frozen BK239.out 0; obtain ⟨Ao27, co27, eo27⟩ := Kd.R_slice HO_240000.out; subst eo27) | ((with_reducible refine gate_callee (f := 24) rfl ?_); refine goesL_ (some 23) rfl rfl Try.func24 (by kernel_rfl) rfl #[.agg #[.slice Ao27 x240000_1.length co27], .agg #[.int .i64 ((rd_T41 l1 x15_1).f0), .string ((rd_T41 l1 x15_1).f1), .string ((rd_T41 l1 x15_1).f2), .string ((rd_T41 l1 x15_1).f3)]] rfl (by (try simp only [List.map_toArray, List.map_cons, List.map_nil]); first | done | rfl | (simp only [List.length_drop, List.length_take]; rfl)) ?_; (with_reducible refine (impl_DoAct.calls _ _ x240000_1 ((rd_T41 l1 x15_1).f0) ((rd_T41 l1 x15_1).f1) ((rd_T41 l1 x15_1).f2) ((rd_T41 l1 x15_1).f3) t242 true _ ?side1 ?side2 A17.out).mono ?_); (case side1 => refine (Kd.R_reads' (e := 67) (base := w.heap.size) (ok := fun k_ => True) (n := x240000_1.length) (c := co27) ?_).2.2; exact (by (with_reducible repeat (first | apply Kd.R_alloc | apply Kd.R_drewN | apply Kd.R_drew)); exact (Kd.R_mono (Kd.R_far (p := ⟨gb241, 3, none⟩) (Kd.R_far (p := ⟨gb241, 2, none⟩) (Kd.R_far (p := ⟨gb241, 1, none⟩) (Kd.R_far (p := ⟨gb241, 0, none⟩) (Kd.R_types HO_240000.out BK241.out (by decide)) (fun _ hk => hk.2) (.int .i64 ((rd_T41 l1 x15_1).f0))) (fun _ hk => hk.2) (.string ((rd_T41 l1 x15_1).f1))) (fun _ hk => hk.2) (.string ((rd_T41 l1 x15_1).f2))) (fun _ hk => hk.2) (.string ((rd_T41 l1 x15_1).f3))) (fun _ h_ => h_.1)))); (case side2 => exact (Kd.R_reads' HO_240000.out).2.1); rintro e w28 ⟨v243, rfl, ho0, hb⟩; refine ⟨_, rfl, ?_⟩; have n0_ := Aside0.mk (Kd.R_elder' (by (with_reducible repeat (first | apply Kd.R_alloc | apply Kd.R_drewN | apply Kd.R_drew)); exact (Kd.R_mono (Kd.R_far (p := ⟨gb241, 3, none⟩) (Kd.R_far (p := ⟨gb241, 2, none⟩) (Kd.R_far (p := ⟨gb241, 1, none⟩) (Kd.R_far (p := ⟨gb241, 0, none⟩) (Kd.R_types HO_240000.out BK241.out (by decide)) (fun _ hk => hk.2) (.int .i64 ((rd_T41 l1 x15_1).f0))) (fun _ hk => hk.2) (.string ((rd_T41 l1 x15_1).f1))) (fun _ hk => hk.2) (.string ((rd_T41 l1 x15_1).f2))) (fun _ hk => hk.2) (.string ((rd_T41 l1 x15_1).f3))) (fun _ h_ => h_.1))) (Kd.R_base ho0) hb); have n1_ := Aside0.mk (Kd.R_lower (Kd.R_new' ho0 (Kd.R_lt (by (with_reducible repeat (first | apply Kd.R_alloc | apply Kd.R_drewN | apply Kd.R_drew)); exact (Kd.R_mono (Kd.R_far (p := ⟨gb241, 3, none⟩) (Kd.R_far (p := ⟨gb241, 2, none⟩) (Kd.R_far (p := ⟨gb241, 1, none⟩) (Kd.R_far (p := ⟨gb241, 0, none⟩) (Kd.R_types HO_240000.out BK241.out (by decide)) (fun _ hk => hk.2) (.int .i64 ((rd_T41 l1 x15_1).f0))) (fun _ hk => hk.2) (.string ((rd_T41 l1 x15_1).f1))) (fun _ hk => hk.2) (.string ((rd_T41 l1 x15_1).f2))) (fun _ hk => hk.2) (.string ((rd_T41 l1 x15_1).f3))) (fun _ h_ => h_.1))))) (below_size (hh_ HB))); have n2_ := Aside0.mk (blk_below (g := gb234) (o := .cells #[.slice A0_0 l0_0.length c0_0] 29 (0, 0)) (by (with_reducible repeat (first | refine blk_drewN ?_ _ | refine blk_drew ?_ | refine blk_alloc ?_ _)); refine blk_far ?_ NB234_241.out _; refine blk_far ?_ NB234_241.out _; refine blk_far ?_ NB234_241.out _; refine blk_far ?_ NB234_241.out _; exact bb_ BK234) hb); have n3_ := Aside0.mk (blk_below (g := gb235) (o := .cells #[.slice none 0 0] 29 (0, 0)) (by (with_reducible repeat (first | refine blk_drewN ?_ _ | refine blk_drew ?_ | refine blk_alloc ?_ _)); refine blk_far ?_ NB235_241.out _; refine blk_far ?_ NB235_241.out _; refine blk_far ?_ NB235_241.out _; refine blk_far ?_ NB235_241.out _; exact bb_ BK235) hb); have n4_ := Aside0.mk (blk_below (g := gb239) (o := .cells #[.slice Ao27 x240000_1.length co27] 29 (0, 0)) (by (with_reducible repeat (first | refine blk_drewN ?_ _ | refine blk_drew ?_ | refine blk_alloc ?_ _)); refine blk_far ?_ NB239_241.out _; refine blk_far ?_ NB239_241.out _; refine blk_far ?_ NB239_241.out _; refine blk_far ?_ NB239_241.out _; exact bb_ BK239) hb); have n5_ := Aside0.mk (blk_below (g := gb241) (o := .cells #[.int .i64 ((rd_T41 l1 x15_1).f0), .string ((rd_T41 l1 x15_1).f1), .string ((rd_T41 l1 x15_1).f2), .string ((rd_T41 l1 x15_1).f3)] 41 (0, 0)) (by (with_reducible repeat (first | refine blk_drewN ?_ _ | refine blk_drew ?_ | refine blk_alloc ?_ _)); refine blk_put (cs := #[.int .i64 ((rd_T41 l1 x15_1).f0), .string ((rd_T41 l1 x15_1).f1), .string ((rd_T41 l1 x15_1).f2), .string (⟨#[]⟩ : ByteArray)]) ?_ 3 _ rfl; refine blk_put (cs := #[.int .i64 ((rd_T41 l1 x15_1).f0), .string ((rd_T41 l1 x15_1).f1), .string (⟨#[]⟩ : ByteArray), .string (⟨#[]⟩ : ByteArray)]) ?_ 2 _ rfl; refine blk_put (cs := #[.int .i64 ((rd_T41 l1 x15_1).f0), .string (⟨#[]⟩ : ByteArray), .string (⟨#[]⟩ : ByteArray), .string (⟨#[]⟩ : ByteArray)]) ?_ 1 _ rfl; refine blk_put (cs := #[.int .i64 0, .string (⟨#[]⟩ : ByteArray), .string (⟨#[]⟩ : ByteArray), .string (⟨#[]⟩ : ByteArray)]) ?_ 0 _ rfl; exact bb_ BK241) hb); have n6_ := Aside0.mk (below_step (hh_ HB) hb); clear HO_240000; clear BK234; clear BK235; clear BK239; clear BK241; clear HB; have HO_240000 := n0_; have HO244 := n1_; have BK234 := n2_; have BK235 := n3_; have BK239 := n4_; have BK241 := n5_; have HB := n6_; clear n0_ n1_ n2_ n3_ n4_ n5_ n6_; (try clear hb); (try clear hb2); (try clear hk); (try clear hi); (try clear ho0)) | ((with_reducible refine gate_dst (N := 9) rfl ?_); refine box_event ?hg (N := 9) ?hd (cs := #[.slice none 0 0]) (t := 29) ?hr ?_; (case hd => rfl); (case hg => rfl); (case hr => first | (go_simp; done) | (go_simp; rfl)); intro gb246 hg w29 hbox hb; have n0_ := Aside0.mk (Kd.R_below (rr_ HO_240000) hb); have n1_ := Aside0.mk (Kd.R_below (rr_ HO244) hb); have n2_ := Aside0.mk (blk_below (bb_ BK234) hb); have n3_ := Aside0.mk (blk_below (bb_ BK235) hb); have n4_ := Aside0.mk (blk_below (bb_ BK239) hb); have n5_ := Aside0.mk (blk_below (bb_ BK241) hb); have n6_ := Aside0.mk (below_step (hh_ HB) hb); have n7_ := Aside0.mk (hbox); have n8_ := Aside0.mk ((by rw [hg]; exact (below_size (hh_ HB)) : w.heap.size ≤ gb246)); have n9_ := n8_; have n10_ := Aside0.mk ((by rw [hg]; exact Nat.ne_of_lt (blk_lt (bb_ BK234)) : gb234 ≠ gb246)); have n11_ := Aside0.mk ((by rw [hg]; exact Nat.ne_of_gt (blk_lt (bb_ BK234)) : gb246 ≠ gb234)); have n12_ := Aside0.mk ((by rw [hg]; exact Nat.ne_of_lt (blk_lt (bb_ BK235)) : gb235 ≠ gb246)); have n13_ := Aside0.mk ((by rw [hg]; exact Nat.ne_of_gt (blk_lt (bb_ BK235)) : gb246 ≠ gb235)); have n14_ := Aside0.mk ((by rw [hg]; exact Nat.ne_of_lt (blk_lt (bb_ BK239)) : gb239 ≠ gb246)); have n15_ := Aside0.mk ((by rw [hg]; exact Nat.ne_of_gt (blk_lt (bb_ BK239)) : gb246 ≠ gb239)); have n16_ := Aside0.mk ((by rw [hg]; exact Nat.ne_of_lt (blk_lt (bb_ BK241)) : gb241 ≠ gb246)); have n17_ := Aside0.mk ((by rw [hg]; exact Nat.ne_of_gt (blk_lt (bb_ BK241)) : gb246 ≠ gb241)); clear HO_240000; clear HO244; clear BK234; clear BK235; clear BK239; clear BK241; clear HB; have HO_240000 := n0_; have HO244 := n1_; have BK234 := n2_; have BK235 := n3_; have BK239 := n4_; have BK241 := n5_; have HB := n6_; have BK246 := n7_; have GW246 := n8_; have GE246 := n9_; have NB234_246 := n10_; have NB246_234 := n11_; have NB235_246 := n12_; have NB246_235 := n13_; have NB239_246 := n14_; have NB246_239 := n15_; have NB241_246 := n16_; have NB246_241 := n17_; clear n0_ n1_ n2_ n3_ n4_ n5_ n6_ n7_ n8_ n9_ n10_ n11_ n12_ n13_ n14_ n15_ n16_ n17_; clear hb hbox hg; obtain ⟨Ao30, co30, eo30⟩ := Kd.R_slice HO244.out; subst eo30; have hnb31 := NB246_234.out; have hnc31 := NB234_246.out; have hnb32 := NB246_235.out; have hnc32 := NB235_246.out; have hnb33 := NB246_239.out; have hnc33 := NB239_246.out; have hnb34 := NB246_241.out; have hnc34 := NB241_246.out; have hcz35_0 : w29.cell? ⟨gb246, 0, none⟩ = some (.slice none 0 0) := (blk_cell BK246.out 0).trans rfl; have hfz35_0 := blk_frozen BK246.out 0; have hcz36_0 : w29.cell? ⟨gb239, 0, none⟩ = some (.slice Ao27 x240000_1.length co27) := (blk_cell BK239.out 0).trans rfl; have hfz36_0 := blk_frozen BK239.out 0))
       go_roundg k1
       case measure => have := HK1.out; omega
       case rel => exact ⟨(wrap64 (x15_1 + 1)), (t242), (.slice Ao30 t242.length co30), (by first | rfl | (simp; done) | (simp [*]; done)), H', ⟨by have := HK1.out; omega⟩, ⟨by (with_reducible repeat (first | apply Kd.R_alloc | apply Kd.R_drewN | apply Kd.R_drew)); exact Kd.R_mono (Kd.R_far (p := ⟨gb239, 0, none⟩) (Kd.R_far (p := ⟨gb246, 0, none⟩) (Kd.R_types (Kd.R_types HO244.out BK246.out (by decide)) BK239.out (by decide)) (fun _ hk => hk.1.2) (.slice Ao30 t242.length co30)) (fun _ hk => hk.2) (.slice Ao30 t242.length co30)) (fun _ hk => trivial)⟩, ⟨by (with_reducible repeat (first | refine blk_drewN ?_ _ | refine blk_drew ?_ | refine blk_alloc ?_ _)); refine blk_far ?_ NB234_239.out _; refine blk_far ?_ NB234_246.out _; exact bb_ BK234⟩, ⟨by (with_reducible repeat (first | refine blk_drewN ?_ _ | refine blk_drew ?_ | refine blk_alloc ?_ _)); refine blk_far ?_ NB235_239.out _; refine blk_far ?_ NB235_246.out _; exact bb_ BK235⟩, ⟨by (with_reducible repeat (first | refine blk_drewN ?_ _ | refine blk_drew ?_ | refine blk_alloc ?_ _)); refine blk_put (cs := #[.slice Ao27 x240000_1.length co27]) ?_ 0 _ rfl; refine blk_far ?_ NB239_246.out _; exact bb_ BK239⟩, ⟨hh_ HB⟩⟩
      ·replace c18 := Bool.eq_false_iff.mpr c18
       subst c18
       have H1 : (some (x240000_1, x15_1)) = some (r1, r2) := by rw [if_neg (show ¬ (false = true) by decide)] at H; exact H
       clear H
       have H := H1
       clear H1
       simp only [Option.some.injEq, Prod.mk.injEq] at H
       obtain ⟨rfl, rfl⟩ := H
       have p240 : 0 ≤ (x15_1 : Int) := of_decide_eq_true (by first | (with_reducible assumption) | assumption)
       have q240 : x15_1 < (l1.length : Int) := of_decide_eq_true (by first | (with_reducible assumption) | assumption)
       obtain ⟨ad240, e240, hx240_0, hx240_1, hx240_2, hx240_3⟩ := at_T41 HR1.out x15_1 p240 q240
       cases e240
       replace hx240_0 := (HB.out.cell (World.block_lt_of_cell? w _ hx240_0)).trans hx240_0
       replace hx240_1 := (HB.out.cell (World.block_lt_of_cell? w _ hx240_1)).trans hx240_1
       replace hx240_2 := (HB.out.cell (World.block_lt_of_cell? w _ hx240_2)).trans hx240_2
       replace hx240_3 := (HB.out.cell (World.block_lt_of_cell? w _ hx240_3)).trans hx240_3
       replace p240 := eq_true p240
       replace q240 := eq_true q240
       go_wp2_with (first | ((with_reducible refine gate_dst (N := 8) rfl ?_); refine box_event ?hg (N := 8) ?hd (cs := #[.int .i64 0, .string (⟨#[]⟩ : ByteArray), .string (⟨#[]⟩ : ByteArray), .string (⟨#[]⟩ : ByteArray)]) (t := 41) ?hr ?_; (case hd => rfl); (case hg => rfl); (case hr => first | (go_simp; done) | (go_simp; rfl)); intro gb241 hg w37 hbox hb; have n0_ := Aside0.mk (Kd.R_below (rr_ HO_240000) hb); have n1_ := Aside0.mk (blk_below (bb_ BK234) hb); have n2_ := Aside0.mk (blk_below (bb_ BK235) hb); have n3_ := Aside0.mk (blk_below (bb_ BK239) hb); have n4_ := Aside0.mk (below_step (hh_ HB) hb); have n5_ := Aside0.mk (hbox); have n6_ := Aside0.mk ((by rw [hg]; exact (below_size (hh_ HB)) : w.heap.size ≤ gb241)); have n7_ := n6_; have n8_ := Aside0.mk ((by rw [hg]; exact Nat.ne_of_lt (blk_lt (bb_ BK234)) : gb234 ≠ gb241)); have n9_ := Aside0.mk ((by rw [hg]; exact Nat.ne_of_gt (blk_lt (bb_ BK234)) : gb241 ≠ gb234)); have n10_ := Aside0.mk ((by rw [hg]; exact Nat.ne_of_lt (blk_lt (bb_ BK235)) : gb235 ≠ gb241)); have n11_ := Aside0.mk ((by rw [hg]; exact Nat.ne_of_gt (blk_lt (bb_ BK235)) : gb241 ≠ gb235)); have n12_ := Aside0.mk ((by rw [hg]; exact Nat.ne_of_lt (blk_lt (bb_ BK239)) : gb239 ≠ gb241)); have n13_ := Aside0.mk ((by rw [hg]; exact Nat.ne_of_gt (blk_lt (bb_ BK239)) : gb241 ≠ gb239)); clear HO_240000; clear BK234; clear BK235; clear BK239; clear HB; have HO_240000 := n0_; have BK234 := n1_; have BK235 := n2_; have BK239 := n3_; have HB := n4_; have BK241 := n5_; have GW241 := n6_; have GE241 := n7_; have NB234_241 := n8_; have NB241_234 := n9_; have NB235_241 := n10_; have NB241_235 := n11_; have NB239_241 := n12_; have NB241_239 := n13_; clear n0_ n1_ n2_ n3_ n4_ n5_ n6_ n7_ n8_ n9_ n10_ n11_ n12_ n13_; clear hb hbox hg; have hnb38 := NB241_234.out; have hnc38 := NB234_241.out; have hnb39 := NB241_235.out; have hnc39 := NB235_241.out; have hnb40 := NB241_239.out; have hnc40 := NB239_241.out; have hcz41_0 : w37.cell? ⟨gb241, 0, none⟩ = some (.int .i64 0) := (blk_cell BK241.out 0).trans rfl; have hcz41_1 : w37.cell? ⟨gb241, 1, none⟩ = some (.string (⟨#[]⟩ : ByteArray)) := (blk_cell BK241.out 1).trans rfl; have hcz41_2 : w37.cell? ⟨gb241, 2, none⟩ = some (.string (⟨#[]⟩ : ByteArray)) := (blk_cell BK241.out 2).trans rfl; have hcz41_3 : w37.cell? ⟨gb241, 3, none⟩ = some (.string (⟨#[]⟩ : ByteArray)) := (blk_cell BK241.out 3).trans rfl; have hfz41_0 := blk_frozen BK241.out 0; have hfz41_1 := blk_frozen BK241.out 1; have hfz41_2 := blk_frozen BK241.out 2; have hfz41_3 := blk_frozen BK241.out 3; have hnb42 := NB239_234.out; have hnc42 := NB234_239.out; have hnb43 := NB239_235.out; have hnc43 := NB235_239.out; have hcz44_0 : w37.cell? ⟨gb239, 0, none⟩ = some (u240000) := (blk_cell BK239.out 0).trans rfl; have hfz44_0 := blk_frozen BK239.out 0; obtain ⟨Ao45, co45, eo45⟩ := Kd.R_slice HO_240000.out; subst eo45) | ((with_reducible refine gate_callee (f := 24) rfl ?_); refine goesL_ (some 23) rfl rfl Try.func24 (by kernel_rfl) rfl #[.agg #[.slice Ao45 x240000_1.length co45], .agg #[.int .i64 ((rd_T41 l1 x15_1).f0), .string ((rd_T41 l1 x15_1).f1), .string ((rd_T41 l1 x15_1).f2), .string ((rd_T41 l1 x15_1).f3)]] rfl (by (try simp only [List.map_toArray, List.map_cons, List.map_nil]); first | done | rfl | (simp only [List.length_drop, List.length_take]; rfl)) ?_; (with_reducible refine (impl_DoAct.calls _ _ x240000_1 ((rd_T41 l1 x15_1).f0) ((rd_T41 l1 x15_1).f1) ((rd_T41 l1 x15_1).f2) ((rd_T41 l1 x15_1).f3) t242 false _ ?side1 ?side2 A17.out).mono ?_); (case side1 => refine (Kd.R_reads' (e := 67) (base := w.heap.size) (ok := fun k_ => True) (n := x240000_1.length) (c := co45) ?_).2.2; exact (by (with_reducible repeat (first | apply Kd.R_alloc | apply Kd.R_drewN | apply Kd.R_drew)); exact (Kd.R_mono (Kd.R_far (p := ⟨gb241, 3, none⟩) (Kd.R_far (p := ⟨gb241, 2, none⟩) (Kd.R_far (p := ⟨gb241, 1, none⟩) (Kd.R_far (p := ⟨gb241, 0, none⟩) (Kd.R_types HO_240000.out BK241.out (by decide)) (fun _ hk => hk.2) (.int .i64 ((rd_T41 l1 x15_1).f0))) (fun _ hk => hk.2) (.string ((rd_T41 l1 x15_1).f1))) (fun _ hk => hk.2) (.string ((rd_T41 l1 x15_1).f2))) (fun _ hk => hk.2) (.string ((rd_T41 l1 x15_1).f3))) (fun _ h_ => h_.1)))); (case side2 => exact (Kd.R_reads' HO_240000.out).2.1); rintro e w46 ⟨v243, rfl, ho0, hb⟩; refine ⟨_, rfl, ?_⟩; have n0_ := Aside0.mk (Kd.R_elder' (by (with_reducible repeat (first | apply Kd.R_alloc | apply Kd.R_drewN | apply Kd.R_drew)); exact (Kd.R_mono (Kd.R_far (p := ⟨gb241, 3, none⟩) (Kd.R_far (p := ⟨gb241, 2, none⟩) (Kd.R_far (p := ⟨gb241, 1, none⟩) (Kd.R_far (p := ⟨gb241, 0, none⟩) (Kd.R_types HO_240000.out BK241.out (by decide)) (fun _ hk => hk.2) (.int .i64 ((rd_T41 l1 x15_1).f0))) (fun _ hk => hk.2) (.string ((rd_T41 l1 x15_1).f1))) (fun _ hk => hk.2) (.string ((rd_T41 l1 x15_1).f2))) (fun _ hk => hk.2) (.string ((rd_T41 l1 x15_1).f3))) (fun _ h_ => h_.1))) (Kd.R_base ho0) hb); have n1_ := Aside0.mk (Kd.R_lower (Kd.R_new' ho0 (Kd.R_lt (by (with_reducible repeat (first | apply Kd.R_alloc | apply Kd.R_drewN | apply Kd.R_drew)); exact (Kd.R_mono (Kd.R_far (p := ⟨gb241, 3, none⟩) (Kd.R_far (p := ⟨gb241, 2, none⟩) (Kd.R_far (p := ⟨gb241, 1, none⟩) (Kd.R_far (p := ⟨gb241, 0, none⟩) (Kd.R_types HO_240000.out BK241.out (by decide)) (fun _ hk => hk.2) (.int .i64 ((rd_T41 l1 x15_1).f0))) (fun _ hk => hk.2) (.string ((rd_T41 l1 x15_1).f1))) (fun _ hk => hk.2) (.string ((rd_T41 l1 x15_1).f2))) (fun _ hk => hk.2) (.string ((rd_T41 l1 x15_1).f3))) (fun _ h_ => h_.1))))) (below_size (hh_ HB))); have n2_ := Aside0.mk (blk_below (g := gb234) (o := .cells #[.slice A0_0 l0_0.length c0_0] 29 (0, 0)) (by (with_reducible repeat (first | refine blk_drewN ?_ _ | refine blk_drew ?_ | refine blk_alloc ?_ _)); refine blk_far ?_ NB234_241.out _; refine blk_far ?_ NB234_241.out _; refine blk_far ?_ NB234_241.out _; refine blk_far ?_ NB234_241.out _; exact bb_ BK234) hb); have n3_ := Aside0.mk (blk_below (g := gb235) (o := .cells #[.slice none 0 0] 29 (0, 0)) (by (with_reducible repeat (first | refine blk_drewN ?_ _ | refine blk_drew ?_ | refine blk_alloc ?_ _)); refine blk_far ?_ NB235_241.out _; refine blk_far ?_ NB235_241.out _; refine blk_far ?_ NB235_241.out _; refine blk_far ?_ NB235_241.out _; exact bb_ BK235) hb); have n4_ := Aside0.mk (blk_below (g := gb239) (o := .cells #[.slice Ao45 x240000_1.length co45] 29 (0, 0)) (by (with_reducible repeat (first | refine blk_drewN ?_ _ | refine blk_drew ?_ | refine blk_alloc ?_ _)); refine blk_far ?_ NB239_241.out _; refine blk_far ?_ NB239_241.out _; refine blk_far ?_ NB239_241.out _; refine blk_far ?_ NB239_241.out _; exact bb_ BK239) hb); have n5_ := Aside0.mk (blk_below (g := gb241) (o := .cells #[.int .i64 ((rd_T41 l1 x15_1).f0), .string ((rd_T41 l1 x15_1).f1), .string ((rd_T41 l1 x15_1).f2), .string ((rd_T41 l1 x15_1).f3)] 41 (0, 0)) (by (with_reducible repeat (first | refine blk_drewN ?_ _ | refine blk_drew ?_ | refine blk_alloc ?_ _)); refine blk_put (cs := #[.int .i64 ((rd_T41 l1 x15_1).f0), .string ((rd_T41 l1 x15_1).f1), .string ((rd_T41 l1 x15_1).f2), .string (⟨#[]⟩ : ByteArray)]) ?_ 3 _ rfl; refine blk_put (cs := #[.int .i64 ((rd_T41 l1 x15_1).f0), .string ((rd_T41 l1 x15_1).f1), .string (⟨#[]⟩ : ByteArray), .string (⟨#[]⟩ : ByteArray)]) ?_ 2 _ rfl; refine blk_put (cs := #[.int .i64 ((rd_T41 l1 x15_1).f0), .string (⟨#[]⟩ : ByteArray), .string (⟨#[]⟩ : ByteArray), .string (⟨#[]⟩ : ByteArray)]) ?_ 1 _ rfl; refine blk_put (cs := #[.int .i64 0, .string (⟨#[]⟩ : ByteArray), .string (⟨#[]⟩ : ByteArray), .string (⟨#[]⟩ : ByteArray)]) ?_ 0 _ rfl; exact bb_ BK241) hb); have n6_ := Aside0.mk (below_step (hh_ HB) hb); clear HO_240000; clear BK234; clear BK235; clear BK239; clear BK241; clear HB; have HO_240000 := n0_; have HO244 := n1_; have BK234 := n2_; have BK235 := n3_; have BK239 := n4_; have BK241 := n5_; have HB := n6_; clear n0_ n1_ n2_ n3_ n4_ n5_ n6_; (try clear hb); (try clear hb2); (try clear hk); (try clear hi); (try clear ho0)) | ((with_reducible refine gate_dst (N := 9) rfl ?_); refine box_event ?hg (N := 9) ?hd (cs := #[.slice none 0 0]) (t := 29) ?hr ?_; (case hd => rfl); (case hg => rfl); (case hr => first | (go_simp; done) | (go_simp; rfl)); intro gb246 hg w47 hbox hb; have n0_ := Aside0.mk (Kd.R_below (rr_ HO_240000) hb); have n1_ := Aside0.mk (Kd.R_below (rr_ HO244) hb); have n2_ := Aside0.mk (blk_below (bb_ BK234) hb); have n3_ := Aside0.mk (blk_below (bb_ BK235) hb); have n4_ := Aside0.mk (blk_below (bb_ BK239) hb); have n5_ := Aside0.mk (blk_below (bb_ BK241) hb); have n6_ := Aside0.mk (below_step (hh_ HB) hb); have n7_ := Aside0.mk (hbox); have n8_ := Aside0.mk ((by rw [hg]; exact (below_size (hh_ HB)) : w.heap.size ≤ gb246)); have n9_ := n8_; have n10_ := Aside0.mk ((by rw [hg]; exact Nat.ne_of_lt (blk_lt (bb_ BK234)) : gb234 ≠ gb246)); have n11_ := Aside0.mk ((by rw [hg]; exact Nat.ne_of_gt (blk_lt (bb_ BK234)) : gb246 ≠ gb234)); have n12_ := Aside0.mk ((by rw [hg]; exact Nat.ne_of_lt (blk_lt (bb_ BK235)) : gb235 ≠ gb246)); have n13_ := Aside0.mk ((by rw [hg]; exact Nat.ne_of_gt (blk_lt (bb_ BK235)) : gb246 ≠ gb235)); have n14_ := Aside0.mk ((by rw [hg]; exact Nat.ne_of_lt (blk_lt (bb_ BK239)) : gb239 ≠ gb246)); have n15_ := Aside0.mk ((by rw [hg]; exact Nat.ne_of_gt (blk_lt (bb_ BK239)) : gb246 ≠ gb239)); have n16_ := Aside0.mk ((by rw [hg]; exact Nat.ne_of_lt (blk_lt (bb_ BK241)) : gb241 ≠ gb246)); have n17_ := Aside0.mk ((by rw [hg]; exact Nat.ne_of_gt (blk_lt (bb_ BK241)) : gb246 ≠ gb241)); clear HO_240000; clear HO244; clear BK234; clear BK235; clear BK239; clear BK241; clear HB; have HO_240000 := n0_; have HO244 := n1_; have BK234 := n2_; have BK235 := n3_; have BK239 := n4_; have BK241 := n5_; have HB := n6_; have BK246 := n7_; have GW246 := n8_; have GE246 := n9_; have NB234_246 := n10_; have NB246_234 := n11_; have NB235_246 := n12_; have NB246_235 := n13_; have NB239_246 := n14_; have NB246_239 := n15_; have NB241_246 := n16_; have NB246_241 := n17_; clear n0_ n1_ n2_ n3_ n4_ n5_ n6_ n7_ n8_ n9_ n10_ n11_ n12_ n13_ n14_ n15_ n16_ n17_; clear hb hbox hg; obtain ⟨Ao48, co48, eo48⟩ := Kd.R_slice HO244.out; subst eo48; have hnb49 := NB246_234.out; have hnc49 := NB234_246.out; have hnb50 := NB246_235.out; have hnc50 := NB235_246.out; have hnb51 := NB246_239.out; have hnc51 := NB239_246.out; have hnb52 := NB246_241.out; have hnc52 := NB241_246.out; have hcz53_0 : w47.cell? ⟨gb246, 0, none⟩ = some (.slice none 0 0) := (blk_cell BK246.out 0).trans rfl; have hfz53_0 := blk_frozen BK246.out 0; have hcz54_0 : w47.cell? ⟨gb239, 0, none⟩ = some (.slice Ao45 x240000_1.length co45) := (blk_cell BK239.out 0).trans rfl; have hfz54_0 := blk_frozen BK239.out 0; have hnb55 := NB235_234.out; have hnc55 := NB234_235.out; have hcz56_0 : w47.cell? ⟨gb235, 0, none⟩ = some (.slice none 0 0) := (blk_cell BK235.out 0).trans rfl; have hfz56_0 := blk_frozen BK235.out 0))
       refine bodyPost_ret (results_ct rfl _ _ gb235 29 #[.slice Ao45 x240000_1.length co45] (0, 0) _ rfl (by (with_reducible repeat (first | refine blk_drewN ?_ _ | refine blk_drew ?_ | refine blk_alloc ?_ _)); refine blk_put (cs := #[.slice none 0 0]) ?_ 0 _ rfl; refine blk_far ?_ NB235_246.out _; exact bb_ BK235) Try.underlying29 rfl (by kernel_rfl)) rfl ?_
       exact ⟨_, by first | rfl | (simp [errW_none, errW_some] <;> rfl) | (simp [*, errW_none, errW_some] <;> rfl), by (with_reducible repeat (first | apply Kd.R_alloc | apply Kd.R_drewN | apply Kd.R_drew)); exact Kd.R_mono (Kd.R_far (p := ⟨gb235, 0, none⟩) (Kd.R_far (p := ⟨gb246, 0, none⟩) (Kd.R_types (Kd.R_types HO_240000.out BK246.out (by decide)) BK235.out (by decide)) (fun _ hk => hk.1.2) (.slice Ao48 t242.length co48)) (fun _ hk => hk.2) (.slice Ao45 x240000_1.length co45)) (fun _ hk => trivial), by repeat (first | (with_reducible first | exact HB.out | apply below_alloc | apply pw_below_drewN | apply below_drew1 | refine below_set ?_ GE234.out | refine below_set ?_ GE235.out | refine below_set ?_ GE239.out | refine below_set ?_ GE241.out | refine below_set ?_ GE246.out) | exact HB.out)⟩
     ·rw [if_neg c16] at H
      exact absurd H (by simp)
    ·rw [if_neg c15] at H
     exact absurd H (by simp)
   ·rw [if_neg c14] at H
    have c14b0 : decide (x15_1 < (l1.length : Int)) = false := decide_eq_false c14
    clear c14
    simp only [Option.some.injEq, Prod.mk.injEq] at H
    obtain ⟨rfl, rfl⟩ := H
    have hnb57 := NB239_234.out; have hnc57 := NB234_239.out; have hnb58 := NB239_235.out; have hnc58 := NB235_239.out
    have hcz59_0 : wr.cell? ⟨gb239, 0, none⟩ = some (u240000) := (blk_cell BK239.out 0).trans rfl
    have hfz59_0 := blk_frozen BK239.out 0
    obtain ⟨Ao60, co60, eo60⟩ := Kd.R_slice HO_240000.out
    subst eo60
    have hnb61 := NB235_234.out; have hnc61 := NB234_235.out
    have hcz62_0 : wr.cell? ⟨gb235, 0, none⟩ = some (.slice none 0 0) := (blk_cell BK235.out 0).trans rfl
    have hfz62_0 := blk_frozen BK235.out 0
    go_wp2
    refine bodyPost_ret (results_ct rfl _ _ gb235 29 #[.slice Ao60 x240000_1.length co60] (0, 0) _ rfl (by (with_reducible repeat (first | refine blk_drewN ?_ _ | refine blk_drew ?_ | refine blk_alloc ?_ _)); refine blk_put (cs := #[.slice none 0 0]) ?_ 0 _ rfl; exact bb_ BK235) Try.underlying29 rfl (by kernel_rfl)) rfl ?_
    exact ⟨_, by first | rfl | (simp [errW_none, errW_some] <;> rfl) | (simp [*, errW_none, errW_some] <;> rfl), by (with_reducible repeat (first | apply Kd.R_alloc | apply Kd.R_drewN | apply Kd.R_drew)); exact Kd.R_mono (Kd.R_far (p := ⟨gb235, 0, none⟩) (Kd.R_types HO_240000.out BK235.out (by decide)) (fun _ hk => hk.2) (.slice Ao60 x240000_1.length co60)) (fun _ hk => trivial), by repeat (first | (with_reducible first | exact HB.out | apply below_alloc | apply pw_below_drewN | apply below_drew1 | refine below_set ?_ GE234.out | refine below_set ?_ GE235.out | refine below_set ?_ GE239.out) | exact HB.out)⟩

/-! ### impl_LoseDisk: function 35 -/
def impl_LoseDisk.f (l0_0 : List (S67)) (l1 : List Int) : Option (List (S67) × Bool) := if l0_0.length ≤ 1000000000 then some (if okD l0_0 = true then loseD l0_0 l1 else [], okD l0_0) else none
theorem impl_LoseDisk.calls (A0_0 : Option Addr) (c0_0 : Nat) (l0_0 : List (S67)) (A1 : Option Addr) (c1 : Nat) (l1 : List Int) (r1 : List (S67)) (r2 : Bool) (w : World) (hr0_0 : Kd.C k67 w A0_0 l0_0.length l0_0) (hc0_0 : l0_0.length ≤ c0_0) (hr1 : Kd.C (Kd.int .i64) w A1 l1.length l1) (hc1 : l1.length ≤ c1) (h : impl_LoseDisk.f l0_0 l1 = some (r1, r2)) :
    Calls Try.prog 35 #[.agg #[.slice A0_0 l0_0.length c0_0], .slice A1 l1.length c1] w fun e w' => ∃ v0_ : Value, e = .returned (.tuple #[.agg #[v0_], .bool r2]) ∧ Kd.R k67 67 w' w.heap.size (fun _ => True) v0_ r1 ∧ Below w.heap.size w w' := by
  unfold impl_LoseDisk.f at h
  split at h
  · rename_i b
    have h2 := Option.some.inj h
    injection h2 with e1 e2
    have := ilose_walk A0_0 c0_0 l0_0 A1 c1 l1 w hr0_0 hc0_0 hr1 hc1 b
    rw [e1, e2] at this
    exact this
  · cases h


/-! ### impl_in: function 51 -/
def impl_in.f (a0 : Int) (a1 : Int) (a2 : Int) : Option (Bool) := if a0 ≥ a1 then (some (decide (a0 ≤ a2))) else (some false)
set_option maxHeartbeats 8000000 in
set_option maxRecDepth 100000 in
theorem impl_in.calls (a0 : Int) (a1 : Int) (a2 : Int) (r : Bool) (w : World) (h : impl_in.f a0 a1 a2 = some r) :
  Calls Try.prog 51 #[.int .i64 a0, .int .i64 a1, .int .i64 a2] w fun e w' => e = .returned (.bool r) ∧ Drawn0 w w' := by
 have H : (if a0 ≥ a1 then (some (decide (a0 ≤ a2))) else (some false)) = some r := h
 clear h
 by_cases c4 : a0 ≥ a1
 ·rw [if_pos c4] at H
  have c4b0 : decide (a1 ≤ a0) = true := decide_eq_true c4
  clear c4
  obtain rfl := Option.some.inj H
  go_enter Try.func51, Try.ntmps51
  go_wp2
  go_ret
  exact ⟨by first | rfl | (simp; done) | (simp [*]; done), by repeat (first | exact Drawn0.refl _ | apply Drawn0.step)⟩
 ·rw [if_neg c4] at H
  have c4b0 : decide (a1 ≤ a0) = false := decide_eq_false c4
  clear c4
  obtain rfl := Option.some.inj H
  go_enter Try.func51, Try.ntmps51
  go_wp2
  go_ret
  exact ⟨by first | rfl | (simp; done) | (simp [*]; done), by repeat (first | exact Drawn0.refl _ | apply Drawn0.step)⟩

end Go.Proofs.Yteghgeanbglmoaa.PFnExactCutActs
