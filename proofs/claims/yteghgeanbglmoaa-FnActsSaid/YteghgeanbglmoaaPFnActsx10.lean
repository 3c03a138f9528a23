-- a text of this session's program wip/hyb.py (over the kit's print), out of the translation
import Derived.Test.YteghgeanbglmoaaPFnActsx0
import Derived.Test.YteghgeanbglmoaaDkFnActsZ
import Derived.Test.YteghgeanbglmoaaPFnActsx2
import Derived.Test.YteghgeanbglmoaaPFnActsx7
import Derived.Test.YteghgeanbglmoaaPFnActsx9
namespace Go.Proofs.Yteghgeanbglmoaa.PFnActs
open Go.RowKit Go.Proofs.YteghgeanbglmoaaW.PrintWords Go.Proofs.YteghgeanbglmoaaW.PrintLast Go.Proofs.YteghgeanbglmoaaW.PrintMore
attribute [local go_sem] max2_int min2_int max_two min_two max_three min_three max_four min_four   -- for this text's walks alone
set_option linter.unusedVariables false
set_option linter.unusedSimpArgs false

/-! ### spec_l03Act: function 80 -/
def spec_l03Act.j0 : Nat → List Int → Int → Int → Int → ByteArray → ByteArray → ByteArray → Option (Int × ByteArray × ByteArray × ByteArray × Int × Int)
 | 0, _, _, _, _, _, _, _ => none
 | k + 1, x1000, x1001, x1002, x309000, x309001, x309002, x309003 => (spec_l01Below.f x1000 x1001 x1002 40).bind fun bt318 => (if bt318.1 = 0 then ((spec_l01PickInt.f x1000 bt318.2.1 bt318.2.2 (([0, 5] : List Int))).bind fun bt324 => (some (bt324.1, x309001, x309002, x309003, bt324.2.1, bt324.2.2))) else (if bt318.1 = 1 then ((spec_l01Pick.f x1000 bt318.2.1 bt318.2.2 (([(⟨#[]⟩ : ByteArray), (⟨#[49, 50, 51, 52, 53, 54, 55, 56, 57]⟩ : ByteArray), (⟨#[110, 101, 119]⟩ : ByteArray)] : List ByteArray))).bind fun bt330 => (some (x309000, bt330.1, x309002, x309003, bt330.2.1, bt330.2.2))) else (if bt318.1 = 2 then (some (x309000, x309001, x309002, (⟨#[120]⟩ : ByteArray), bt318.2.1, bt318.2.2)) else (if bt318.1 = 3 then (some (x309000, x309001, (⟨#[120]⟩ : ByteArray), x309003, bt318.2.1, bt318.2.2)) else (some (x309000, x309001, x309002, x309003, bt318.2.1, bt318.2.2))))))
def spec_l03Act.f (k : Nat) (s0_0 : List Int) (s0_1 : Int) (s0_2 : Int) : Option (Int × ByteArray × ByteArray × ByteArray × Int × Int) := (spec_l01Below.f s0_0 s0_1 s0_2 4).bind fun bt302 => ((spec_l03Named.f s0_0 bt302.2.1 bt302.2.2).bind fun bt305 => (if (wrap64 (1 + bt302.1)) = 1 then ((spec_l01Below.f s0_0 bt305.2.1 bt305.2.2 6).bind fun bt309 => ((spec_l01Text.f k s0_0 bt309.2.1 bt309.2.2 bt309.1).bind fun bt312 => (spec_l03Act.j0 k s0_0 bt312.2.1 bt312.2.2 (wrap64 (1 + bt302.1)) bt305.1 bt312.1 (⟨#[]⟩ : ByteArray)))) else (if (wrap64 (1 + bt302.1)) = 3 then ((spec_l03Named.f s0_0 bt305.2.1 bt305.2.2).bind fun bt315 => (spec_l03Act.j0 k s0_0 bt315.2.1 bt315.2.2 (wrap64 (1 + bt302.1)) bt305.1 (⟨#[]⟩ : ByteArray) bt315.1)) else (spec_l03Act.j0 k s0_0 bt305.2.1 bt305.2.2 (wrap64 (1 + bt302.1)) bt305.1 (⟨#[]⟩ : ByteArray) (⟨#[]⟩ : ByteArray)))))
theorem spec_l03Act.mono_l : ∀ k, (∀ y0 y1 y2 y3 y4 y5 y6, LeO (spec_l03Act.j0 k y0 y1 y2 y3 y4 y5 y6) (spec_l03Act.j0 (k + 1) y0 y1 y2 y3 y4 y5 y6))
 | 0 => fun _ _ _ _ _ _ _ r h => by simp [spec_l03Act.j0] at h
 | k + 1 => by
  have ih0 := spec_l03Act.mono_l k
  ·intro y0 y1 y2 y3 y4 y5 y6
   unfold spec_l03Act.j0
   repeat' first
   | (with_reducible exact ih0 _ _ _ _ _ _ _)
   | (with_reducible exact spec_l01Text.mono _ _ _ _ _)
   | (with_reducible exact LeO.refl _)
   | (with_reducible exact LeO.none _)
   | (with_reducible refine LeO.ite ?_ ?_)
   | (with_reducible refine LeO.bind ?_ (fun _ => ?_))
   | exact ih0 _ _ _ _ _ _ _
   | exact spec_l01Text.mono _ _ _ _ _
   | exact LeO.none _
   | refine LeO.ite ?_ ?_
   | refine LeO.bind ?_ (fun _ => ?_)
theorem spec_l03Act.mono : ∀ a0 a1 a2 k, LeO (spec_l03Act.f k a0 a1 a2) (spec_l03Act.f (k + 1) a0 a1 a2) := by
 intro a0 a1 a2 k
 have ih0 := spec_l03Act.mono_l k
 unfold spec_l03Act.f
 repeat' first
   | (with_reducible exact ih0 _ _ _ _ _ _ _)
   | (with_reducible exact spec_l01Text.mono _ _ _ _ _)
   | (with_reducible exact LeO.refl _)
   | (with_reducible exact LeO.none _)
   | (with_reducible refine LeO.ite ?_ ?_)
   | (with_reducible refine LeO.bind ?_ (fun _ => ?_))
   | exact ih0 _ _ _ _ _ _ _
   | exact spec_l01Text.mono _ _ _ _ _
   | exact LeO.none _
   | refine LeO.ite ?_ ?_
   | refine LeO.bind ?_ (fun _ => ?_)
set_option maxHeartbeats 8000000 in
set_option maxRecDepth 100000 in
theorem spec_l03Act.calls (k : Nat) (g : Nat) (s0_0 : List Int) (s0_1 : Int) (s0_2 : Int) (r1 : Int) (r2 : ByteArray) (r3 : ByteArray) (r4 : ByteArray) (r5 : Int) (r6 : Int) (w0 w : World) (hI : IsS101 w0 w g s0_0 s0_1 s0_2) (hB : Below w0.heap.size w0 w) (h : spec_l03Act.f k s0_0 s0_1 s0_2 = some (r1, r2, r3, r4, r5, r6)) :
  Calls Try.prog 80 #[.pointer (some ⟨g, 0, none⟩)] w fun e w' => e = .returned (.agg #[.int .i64 r1, .string r2, .string r3, .string r4]) ∧ IsS101 w0 w' g s0_0 r5 r6 ∧ Below w0.heap.size w0 w' ∧ KeepBut w w' g none := by
 have hu41 := Try.underlying41
 have HI0 := Aside0.mk hI
 have HK := Aside0.mk (KeepBut.refl w g none)
 have HL := Aside0.mk hB.size
 clear hI
 have HW0 := Aside0.mk hB.size
 have HB := Aside0.mk hB
 clear hB
 have H : ((spec_l01Below.f s0_0 s0_1 s0_2 4).bind fun bt302 => ((spec_l03Named.f s0_0 bt302.2.1 bt302.2.2).bind fun bt305 => (if (wrap64 (1 + bt302.1)) = 1 then ((spec_l01Below.f s0_0 bt305.2.1 bt305.2.2 6).bind fun bt309 => ((spec_l01Text.f k s0_0 bt309.2.1 bt309.2.2 bt309.1).bind fun bt312 => (spec_l03Act.j0 k s0_0 bt312.2.1 bt312.2.2 (wrap64 (1 + bt302.1)) bt305.1 bt312.1 (⟨#[]⟩ : ByteArray)))) else (if (wrap64 (1 + bt302.1)) = 3 then ((spec_l03Named.f s0_0 bt305.2.1 bt305.2.2).bind fun bt315 => (spec_l03Act.j0 k s0_0 bt315.2.1 bt315.2.2 (wrap64 (1 + bt302.1)) bt305.1 (⟨#[]⟩ : ByteArray) bt315.1)) else (spec_l03Act.j0 k s0_0 bt305.2.1 bt305.2.2 (wrap64 (1 + bt302.1)) bt305.1 (⟨#[]⟩ : ByteArray) (⟨#[]⟩ : ByteArray)))))) = some (r1, r2, r3, r4, r5, r6) := h
 clear h
 replace H := Option.bind_eq_some_iff.mp H
 obtain ⟨⟨t302, t303, t304⟩, A20, H⟩ := H
 replace H : ((spec_l03Named.f s0_0 t303 t304).bind fun bt305 => (if (wrap64 (1 + t302)) = 1 then ((spec_l01Below.f s0_0 bt305.2.1 bt305.2.2 6).bind fun bt309 => ((spec_l01Text.f k s0_0 bt309.2.1 bt309.2.2 bt309.1).bind fun bt312 => (spec_l03Act.j0 k s0_0 bt312.2.1 bt312.2.2 (wrap64 (1 + t302)) bt305.1 bt312.1 (⟨#[]⟩ : ByteArray)))) else (if (wrap64 (1 + t302)) = 3 then ((spec_l03Named.f s0_0 bt305.2.1 bt305.2.2).bind fun bt315 => (spec_l03Act.j0 k s0_0 bt315.2.1 bt315.2.2 (wrap64 (1 + t302)) bt305.1 (⟨#[]⟩ : ByteArray) bt315.1)) else (spec_l03Act.j0 k s0_0 bt305.2.1 bt305.2.2 (wrap64 (1 + t302)) bt305.1 (⟨#[]⟩ : ByteArray) (⟨#[]⟩ : ByteArray))))) = some (r1, r2, r3, r4, r5, r6) := H
 have A2 := Aside0.mk A20
 clear A20
 replace H := Option.bind_eq_some_iff.mp H
 obtain ⟨⟨t305, t306, t307⟩, A30, H⟩ := H
 replace H : (if (wrap64 (1 + t302)) = 1 then ((spec_l01Below.f s0_0 t306 t307 6).bind fun bt309 => ((spec_l01Text.f k s0_0 bt309.2.1 bt309.2.2 bt309.1).bind fun bt312 => (spec_l03Act.j0 k s0_0 bt312.2.1 bt312.2.2 (wrap64 (1 + t302)) t305 bt312.1 (⟨#[]⟩ : ByteArray)))) else (if (wrap64 (1 + t302)) = 3 then ((spec_l03Named.f s0_0 t306 t307).bind fun bt315 => (spec_l03Act.j0 k s0_0 bt315.2.1 bt315.2.2 (wrap64 (1 + t302)) t305 (⟨#[]⟩ : ByteArray) bt315.1)) else (spec_l03Act.j0 k s0_0 t306 t307 (wrap64 (1 + t302)) t305 (⟨#[]⟩ : ByteArray) (⟨#[]⟩ : ByteArray)))) = some (r1, r2, r3, r4, r5, r6) := H
 have A3 := Aside0.mk A30
 clear A30
 have HC4 := Aside0.mk H
 clear H
 go_enter Try.func80, Try.ntmps80
 go_upto_block 0 with (first | ((with_reducible refine gate_dst (N := 2) rfl ?_); refine box_event ?hg (N := 2) ?hd (cs := #[.int .i64 0, .string (⟨#[]⟩ : ByteArray), .string (⟨#[]⟩ : ByteArray), .string (⟨#[]⟩ : ByteArray)]) (t := 41) ?hr ?_; (case hd => rfl); (case hg => rfl); (case hr => first | (go_simp; done) | (go_simp; rfl)); intro gb301 hg w5 hbox hb; have n0_ := Aside0.mk (IsS101.below (ii_ HI0) hb); have n1_ := Aside0.mk (KeepBut.trans (kk_ HK) (KeepBut.of_below hb g none) (.inl rfl)); have n2_ := Aside0.mk (below_step (hj_ HB) hb); have n3_ := Aside0.mk (hbox); have n4_ := Aside0.mk ((by rw [hg]; exact (keep_size (w := w) (g := g) (row := none) (kk_ HK)) : w.heap.size ≤ gb301)); have n5_ := Aside0.mk ((Nat.le_trans HW0.out (by rw [hg]; exact (keep_size (w := w) (g := g) (row := none) (kk_ HK)) : w.heap.size ≤ gb301) : w0.heap.size ≤ gb301)); have n6_ := Aside0.mk ((by rw [hg]; exact Nat.ne_of_lt (IsS101.lt (show IsS101 w0 _ g s0_0 s0_1 s0_2 from ii_ HI0)) : g ≠ gb301)); have n7_ := Aside0.mk ((by rw [hg]; exact Nat.ne_of_gt (IsS101.lt (show IsS101 w0 _ g s0_0 s0_1 s0_2 from ii_ HI0)) : gb301 ≠ g)); clear HI0 HK HB; have HI0 := n0_; have HK := n1_; have HB := n2_; have BK301 := n3_; have GW301 := n4_; have GE301 := n5_; have NB0_301 := n6_; have NB301_0 := n7_; clear n0_ n1_ n2_ n3_ n4_ n5_ n6_ n7_ hb hbox hg) | ((with_reducible refine gate_callee (f := 65) rfl ?_); refine goesL_ (some 5) rfl rfl Try.func65 (by kernel_rfl) rfl #[.pointer (some ⟨g, 0, none⟩), .int .i64 4] rfl (by (try simp only [List.map_toArray, List.map_cons, List.map_nil]); first | done | rfl | (simp only [List.length_drop, List.length_take]; rfl)) ?_; (with_reducible refine (spec_l01Below.calls g s0_0 s0_1 s0_2 4 t302 t303 t304 w0 _ ?side1 ?side2 A2.out).mono ?_); (case side1 => exact ii_ HI0); (case side2 => exact hj_ HB); rintro e w6 ⟨rfl, hi, hb, hk⟩; refine ⟨_, rfl, ?_⟩; have n0_ := Aside0.mk (KeepBut.blk hk (g' := gb301) (o := .cells #[.int .i64 0, .string (⟨#[]⟩ : ByteArray), .string (⟨#[]⟩ : ByteArray), .string (⟨#[]⟩ : ByteArray)] 41 (0, 0)) (bb_ BK301) NB301_0.out (by simp)); have n1_ := Aside0.mk (KeepBut.trans (kk_ HK) hk (.inl rfl)); have n2_ := Aside0.mk (hb); have n3_ := Aside0.mk (hi); clear BK301 HK HB HI0; have BK301 := n0_; have HK := n1_; have HB := n2_; have HI0 := n3_; clear n0_ n1_ n2_ n3_; (try clear hb); (try clear hb2); (try clear hk); (try clear hi)) | ((with_reducible refine gate_callee (f := 67) rfl ?_); refine goesL_ (some 8) rfl rfl Try.func67 (by kernel_rfl) rfl #[.pointer (some ⟨g, 0, none⟩)] rfl (by (try simp only [List.map_toArray, List.map_cons, List.map_nil]); first | done | rfl | (simp only [List.length_drop, List.length_take]; rfl)) ?_; (with_reducible refine (spec_l03Named.calls g s0_0 t303 t304 t305 t306 t307 w0 _ ?side1 ?side2 A3.out).mono ?_); (case side1 => exact ii_ HI0); (case side2 => exact hj_ HB); rintro e w7 ⟨rfl, hi, hb, hk⟩; refine ⟨_, rfl, ?_⟩; have n0_ := Aside0.mk (KeepBut.blk hk (g' := gb301) (o := .cells #[.int .i64 0, .string (⟨#[]⟩ : ByteArray), .string (⟨#[]⟩ : ByteArray), .string (⟨#[]⟩ : ByteArray)] 41 (0, 0)) (bb_ BK301) NB301_0.out (by simp)); have n1_ := Aside0.mk (KeepBut.trans (kk_ HK) hk (.inl rfl)); have n2_ := Aside0.mk (hb); have n3_ := Aside0.mk (hi); clear BK301 HK HB HI0; have BK301 := n0_; have HK := n1_; have HB := n2_; have HI0 := n3_; clear n0_ n1_ n2_ n3_; (try clear hb); (try clear hb2); (try clear hk); (try clear hi)) | ((with_reducible refine gate_dst (N := 3) rfl ?_); refine box_event ?hg (N := 3) ?hd (cs := #[.int .i64 0, .string (⟨#[]⟩ : ByteArray), .string (⟨#[]⟩ : ByteArray), .string (⟨#[]⟩ : ByteArray)]) (t := 41) ?hr ?_; (case hd => rfl); (case hg => rfl); (case hr => first | (go_simp; done) | (go_simp; rfl)); intro gb308 hg w8 hbox hb; have n0_ := Aside0.mk (IsS101.below (ii_ HI0) hb); have n1_ := Aside0.mk (blk_below (bb_ BK301) hb); have n2_ := Aside0.mk (KeepBut.trans (kk_ HK) (KeepBut.of_below hb g none) (.inl rfl)); have n3_ := Aside0.mk (below_step (hj_ HB) hb); have n4_ := Aside0.mk (hbox); have n5_ := Aside0.mk ((by rw [hg]; exact (keep_size (w := w) (g := g) (row := none) (kk_ HK)) : w.heap.size ≤ gb308)); have n6_ := Aside0.mk ((Nat.le_trans HW0.out (by rw [hg]; exact (keep_size (w := w) (g := g) (row := none) (kk_ HK)) : w.heap.size ≤ gb308) : w0.heap.size ≤ gb308)); have n7_ := Aside0.mk ((by rw [hg]; exact Nat.ne_of_lt (blk_lt (bb_ BK301)) : gb301 ≠ gb308)); have n8_ := Aside0.mk ((by rw [hg]; exact Nat.ne_of_gt (blk_lt (bb_ BK301)) : gb308 ≠ gb301)); have n9_ := Aside0.mk ((by rw [hg]; exact Nat.ne_of_lt (IsS101.lt (show IsS101 w0 _ g s0_0 t306 t307 from ii_ HI0)) : g ≠ gb308)); have n10_ := Aside0.mk ((by rw [hg]; exact Nat.ne_of_gt (IsS101.lt (show IsS101 w0 _ g s0_0 t306 t307 from ii_ HI0)) : gb308 ≠ g)); clear HI0 BK301 HK HB; have HI0 := n0_; have BK301 := n1_; have HK := n2_; have HB := n3_; have BK308 := n4_; have GW308 := n5_; have GE308 := n6_; have NB301_308 := n7_; have NB308_301 := n8_; have NB0_308 := n9_; have NB308_0 := n10_; clear n0_ n1_ n2_ n3_ n4_ n5_ n6_ n7_ n8_ n9_ n10_ hb hbox hg; have hnb9 := NB308_301.out; have hnc9 := NB301_308.out; have hnb10 := NB308_0.out; have hnc10 := NB0_308.out; have hcz11_0 : w8.cell? ⟨gb308, 0, none⟩ = some (.int .i64 0) := (blk_cell BK308.out 0).trans rfl; have hcz11_1 : w8.cell? ⟨gb308, 1, none⟩ = some (.string (⟨#[]⟩ : ByteArray)) := (blk_cell BK308.out 1).trans rfl; have hcz11_2 : w8.cell? ⟨gb308, 2, none⟩ = some (.string (⟨#[]⟩ : ByteArray)) := (blk_cell BK308.out 2).trans rfl; have hcz11_3 : w8.cell? ⟨gb308, 3, none⟩ = some (.string (⟨#[]⟩ : ByteArray)) := (blk_cell BK308.out 3).trans rfl; have hfz11_0 := blk_frozen BK308.out 0; have hfz11_1 := blk_frozen BK308.out 1; have hfz11_2 := blk_frozen BK308.out 2; have hfz11_3 := blk_frozen BK308.out 3))
 (try simp only [Act.put, List.setIfInBounds_toArray, List.set_cons_zero, List.set_cons_succ])
 go_cut [] (fun wc => ∃ (kq : Nat) (x1001_3 : Int) (x1002_3 : Int) (x309002_3 : ByteArray) (x309003_3 : ByteArray), Aside0 (spec_l03Act.j0 kq s0_0 x1001_3 x1002_3 (wrap64 (1 + t302)) t305 x309002_3 x309003_3 = some (r1, r2, r3, r4, r5, r6)) ∧ Aside0 (kq ≤ k) ∧ Aside0 (wc.heap[gb301]? = some (.cells #[.int .i64 0, .string (⟨#[]⟩ : ByteArray), .string (⟨#[]⟩ : ByteArray), .string (⟨#[]⟩ : ByteArray)] 41 (0, 0))) ∧ Aside0 (wc.heap[gb308]? = some (.cells #[.int .i64 (wrap64 (1 + t302)), .string t305, .string x309002_3, .string x309003_3] 41 (0, 0))) ∧ Aside0 (IsS101 w0 wc g s0_0 x1001_3 x1002_3) ∧ Aside0 (KeepBut w wc g none) ∧ Aside0 (Below w0.heap.size w0 wc))
 case first =>
  have H := HC4.out
  clear HC4
  by_cases c12 : (wrap64 (1 + t302)) = 1
  ·rw [if_pos c12] at H
   have c12b0 : ((wrap64 (1 + t302)) == 1) = true := beq_iff_eq.mpr c12
   have c12b1 : ((wrap64 (1 + t302)) != 1) = false := bne_eq_false_iff_eq.mpr c12
   clear c12
   (first | rw [c12b0] | (simp only [i64_w, i32_w]; rw [c12b0]) | skip)
   replace H := Option.bind_eq_some_iff.mp H
   obtain ⟨⟨t309, t310, t311⟩, A130, H⟩ := H
   replace H : ((spec_l01Text.f k s0_0 t310 t311 t309).bind fun bt312 => (spec_l03Act.j0 k s0_0 bt312.2.1 bt312.2.2 (wrap64 (1 + t302)) t305 bt312.1 (⟨#[]⟩ : ByteArray))) = some (r1, r2, r3, r4, r5, r6) := H
   have A13 := Aside0.mk A130
   clear A130
   replace H := Option.bind_eq_some_iff.mp H
   obtain ⟨⟨t312, t313, t314⟩, A140, H⟩ := H
   replace H : (spec_l03Act.j0 k s0_0 t313 t314 (wrap64 (1 + t302)) t305 t312 (⟨#[]⟩ : ByteArray)) = some (r1, r2, r3, r4, r5, r6) := H
   have A14 := Aside0.mk A140
   clear A140
   have H' := Aside0.mk H
   clear H
   go_wp2_with (first | ((with_reducible refine gate_callee (f := 65) rfl ?_); refine goesL_ (some 16) rfl rfl Try.func65 (by kernel_rfl) rfl #[.pointer (some ⟨g, 0, none⟩), .int .i64 6] rfl (by (try simp only [List.map_toArray, List.map_cons, List.map_nil]); first | done | rfl | (simp only [List.length_drop, List.length_take]; rfl)) ?_; (with_reducible refine (spec_l01Below.calls g s0_0 t306 t307 6 t309 t310 t311 w0 _ ?side1 ?side2 A13.out).mono ?_); (case side1 => exact ii_ HI0); (case side2 => exact hj_ HB); rintro e w15 ⟨rfl, hi, hb, hk⟩; refine ⟨_, rfl, ?_⟩; have n0_ := Aside0.mk (KeepBut.blk hk (g' := gb301) (o := .cells #[.int .i64 0, .string (⟨#[]⟩ : ByteArray), .string (⟨#[]⟩ : ByteArray), .string (⟨#[]⟩ : ByteArray)] 41 (0, 0)) (by (with_reducible repeat (first | refine blk_drewN ?_ _ | refine blk_drew ?_ | refine blk_alloc ?_ _)); refine blk_far ?_ NB301_308.out _; refine blk_far ?_ NB301_308.out _; refine blk_far ?_ NB301_308.out _; refine blk_far ?_ NB301_308.out _; exact bb_ BK301) NB301_0.out (by simp)); have n1_ := Aside0.mk (KeepBut.blk hk (g' := gb308) (o := .cells #[.int .i64 (wrap64 (1 + t302)), .string t305, .string (⟨#[]⟩ : ByteArray), .string (⟨#[]⟩ : ByteArray)] 41 (0, 0)) (by (with_reducible repeat (first | refine blk_drewN ?_ _ | refine blk_drew ?_ | refine blk_alloc ?_ _)); refine blk_put (cs := #[.int .i64 (wrap64 (1 + t302)), .string t305, .string (⟨#[]⟩ : ByteArray), .string (⟨#[]⟩ : ByteArray)]) ?_ 3 _ rfl; refine blk_put (cs := #[.int .i64 (wrap64 (1 + t302)), .string t305, .string (⟨#[]⟩ : ByteArray), .string (⟨#[]⟩ : ByteArray)]) ?_ 2 _ rfl; refine blk_put (cs := #[.int .i64 (wrap64 (1 + t302)), .string (⟨#[]⟩ : ByteArray), .string (⟨#[]⟩ : ByteArray), .string (⟨#[]⟩ : ByteArray)]) ?_ 1 _ rfl; refine blk_put (cs := #[.int .i64 0, .string (⟨#[]⟩ : ByteArray), .string (⟨#[]⟩ : ByteArray), .string (⟨#[]⟩ : ByteArray)]) ?_ 0 _ rfl; exact bb_ BK308) NB308_0.out (by simp)); have n2_ := Aside0.mk (KeepBut.trans (kk_ HK) hk (.inl rfl)); have n3_ := Aside0.mk (hb); have n4_ := Aside0.mk (hi); clear BK301 BK308 HK HB HI0; have BK301 := n0_; have BK308 := n1_; have HK := n2_; have HB := n3_; have HI0 := n4_; clear n0_ n1_ n2_ n3_ n4_; (try clear hb); (try clear hb2); (try clear hk); (try clear hi)) | ((with_reducible refine gate_callee (f := 66) rfl ?_); refine goesL_ (some 17) rfl rfl Try.func66 (by kernel_rfl) rfl #[.pointer (some ⟨g, 0, none⟩), .int .i64 t309] rfl (by (try simp only [List.map_toArray, List.map_cons, List.map_nil]); first | done | rfl | (simp only [List.length_drop, List.length_take]; rfl)) ?_; (with_reducible refine (spec_l01Text.calls k g s0_0 t310 t311 t309 t312 t313 t314 w0 _ ?side1 ?side2 A14.out).mono ?_); (case side1 => exact ii_ HI0); (case side2 => exact hj_ HB); rintro e w16 ⟨rfl, hi, hb, hk⟩; refine ⟨_, rfl, ?_⟩; have n0_ := Aside0.mk (KeepBut.blk hk (g' := gb301) (o := .cells #[.int .i64 0, .string (⟨#[]⟩ : ByteArray), .string (⟨#[]⟩ : ByteArray), .string (⟨#[]⟩ : ByteArray)] 41 (0, 0)) (bb_ BK301) NB301_0.out (by simp)); have n1_ := Aside0.mk (KeepBut.blk hk (g' := gb308) (o := .cells #[.int .i64 (wrap64 (1 + t302)), .string t305, .string (⟨#[]⟩ : ByteArray), .string (⟨#[]⟩ : ByteArray)] 41 (0, 0)) (bb_ BK308) NB308_0.out (by simp)); have n2_ := Aside0.mk (KeepBut.trans (kk_ HK) hk (.inl rfl)); have n3_ := Aside0.mk (hb); have n4_ := Aside0.mk (hi); clear BK301 BK308 HK HB HI0; have BK301 := n0_; have BK308 := n1_; have HK := n2_; have HB := n3_; have HI0 := n4_; clear n0_ n1_ n2_ n3_ n4_; (try clear hb); (try clear hb2); (try clear hk); (try clear hi); have hnb17 := NB308_301.out; have hnc17 := NB301_308.out; have hnb18 := NB308_0.out; have hnc18 := NB0_308.out; have hcz19_0 : w16.cell? ⟨gb308, 0, none⟩ = some (.int .i64 (wrap64 (1 + t302))) := (blk_cell BK308.out 0).trans rfl; have hcz19_1 : w16.cell? ⟨gb308, 1, none⟩ = some (.string t305) := (blk_cell BK308.out 1).trans rfl; have hcz19_2 : w16.cell? ⟨gb308, 2, none⟩ = some (.string (⟨#[]⟩ : ByteArray)) := (blk_cell BK308.out 2).trans rfl; have hcz19_3 : w16.cell? ⟨gb308, 3, none⟩ = some (.string (⟨#[]⟩ : ByteArray)) := (blk_cell BK308.out 3).trans rfl; have hfz19_0 := blk_frozen BK308.out 0; have hfz19_1 := blk_frozen BK308.out 1; have hfz19_2 := blk_frozen BK308.out 2; have hfz19_3 := blk_frozen BK308.out 3))
   go_meet
   case rel => exact ⟨_, (t313), (t314), (t312), ((⟨#[]⟩ : ByteArray)), H', ⟨by first | omega | exact Nat.le_refl _⟩, ⟨by (with_reducible repeat (first | refine blk_drewN ?_ _ | refine blk_drew ?_ | refine blk_alloc ?_ _)); refine blk_far ?_ NB301_308.out _; exact bb_ BK301⟩, ⟨by (with_reducible repeat (first | refine blk_drewN ?_ _ | refine blk_drew ?_ | refine blk_alloc ?_ _)); refine blk_put (cs := #[.int .i64 (wrap64 (1 + t302)), .string t305, .string (⟨#[]⟩ : ByteArray), .string (⟨#[]⟩ : ByteArray)]) ?_ 2 _ rfl; exact bb_ BK308⟩, ⟨ii_ HI0⟩, ⟨kk_ HK⟩, ⟨hj_ HB⟩⟩
  ·rw [if_neg c12] at H
   have c12b0 : ((wrap64 (1 + t302)) == 1) = false := beq_eq_false_iff_ne.mpr c12
   have c12b1 : ((wrap64 (1 + t302)) != 1) = true := bne_iff_ne.mpr c12
   (first | rw [c12b0] | (simp only [i64_w, i32_w]; rw [c12b0]) | skip)
   by_cases c20 : (wrap64 (1 + t302)) = 3
   ·rw [if_pos c20] at H
    have c20b0 : ((wrap64 (1 + t302)) == 3) = true := beq_iff_eq.mpr c20
    have c20b1 : ((wrap64 (1 + t302)) != 3) = false := bne_eq_false_iff_eq.mpr c20
    clear c20
    replace H := Option.bind_eq_some_iff.mp H
    obtain ⟨⟨t315, t316, t317⟩, A210, H⟩ := H
    replace H : (spec_l03Act.j0 k s0_0 t316 t317 (wrap64 (1 + t302)) t305 (⟨#[]⟩ : ByteArray) t315) = some (r1, r2, r3, r4, r5, r6) := H
    have A21 := Aside0.mk A210
    clear A210
    have H' := Aside0.mk H
    clear H
    go_wp2_with (first | ((with_reducible refine gate_callee (f := 67) rfl ?_); refine goesL_ (some 22) rfl rfl Try.func67 (by kernel_rfl) rfl #[.pointer (some ⟨g, 0, none⟩)] rfl (by (try simp only [List.map_toArray, List.map_cons, List.map_nil]); first | done | rfl | (simp only [List.length_drop, List.length_take]; rfl)) ?_; (with_reducible refine (spec_l03Named.calls g s0_0 t306 t307 t315 t316 t317 w0 _ ?side1 ?side2 A21.out).mono ?_); (case side1 => exact ii_ HI0); (case side2 => exact hj_ HB); rintro e w22 ⟨rfl, hi, hb, hk⟩; refine ⟨_, rfl, ?_⟩; have n0_ := Aside0.mk (KeepBut.blk hk (g' := gb301) (o := .cells #[.int .i64 0, .string (⟨#[]⟩ : ByteArray), .string (⟨#[]⟩ : ByteArray), .string (⟨#[]⟩ : ByteArray)] 41 (0, 0)) (by (with_reducible repeat (first | refine blk_drewN ?_ _ | refine blk_drew ?_ | refine blk_alloc ?_ _)); refine blk_far ?_ NB301_308.out _; refine blk_far ?_ NB301_308.out _; refine blk_far ?_ NB301_308.out _; refine blk_far ?_ NB301_308.out _; exact bb_ BK301) NB301_0.out (by simp)); have n1_ := Aside0.mk (KeepBut.blk hk (g' := gb308) (o := .cells #[.int .i64 (wrap64 (1 + t302)), .string t305, .string (⟨#[]⟩ : ByteArray), .string (⟨#[]⟩ : ByteArray)] 41 (0, 0)) (by (with_reducible repeat (first | refine blk_drewN ?_ _ | refine blk_drew ?_ | refine blk_alloc ?_ _)); refine blk_put (cs := #[.int .i64 (wrap64 (1 + t302)), .string t305, .string (⟨#[]⟩ : ByteArray), .string (⟨#[]⟩ : ByteArray)]) ?_ 3 _ rfl; refine blk_put (cs := #[.int .i64 (wrap64 (1 + t302)), .string t305, .string (⟨#[]⟩ : ByteArray), .string (⟨#[]⟩ : ByteArray)]) ?_ 2 _ rfl; refine blk_put (cs := #[.int .i64 (wrap64 (1 + t302)), .string (⟨#[]⟩ : ByteArray), .string (⟨#[]⟩ : ByteArray), .string (⟨#[]⟩ : ByteArray)]) ?_ 1 _ rfl; refine blk_put (cs := #[.int .i64 0, .string (⟨#[]⟩ : ByteArray), .string (⟨#[]⟩ : ByteArray), .string (⟨#[]⟩ : ByteArray)]) ?_ 0 _ rfl; exact bb_ BK308) NB308_0.out (by simp)); have n2_ := Aside0.mk (KeepBut.trans (kk_ HK) hk (.inl rfl)); have n3_ := Aside0.mk (hb); have n4_ := Aside0.mk (hi); clear BK301 BK308 HK HB HI0; have BK301 := n0_; have BK308 := n1_; have HK := n2_; have HB := n3_; have HI0 := n4_; clear n0_ n1_ n2_ n3_ n4_; (try clear hb); (try clear hb2); (try clear hk); (try clear hi); have hnb23 := NB308_301.out; have hnc23 := NB301_308.out; have hnb24 := NB308_0.out; have hnc24 := NB0_308.out; have hcz25_0 : w22.cell? ⟨gb308, 0, none⟩ = some (.int .i64 (wrap64 (1 + t302))) := (blk_cell BK308.out 0).trans rfl; have hcz25_1 : w22.cell? ⟨gb308, 1, none⟩ = some (.string t305) := (blk_cell BK308.out 1).trans rfl; have hcz25_2 : w22.cell? ⟨gb308, 2, none⟩ = some (.string (⟨#[]⟩ : ByteArray)) := (blk_cell BK308.out 2).trans rfl; have hcz25_3 : w22.cell? ⟨gb308, 3, none⟩ = some (.string (⟨#[]⟩ : ByteArray)) := (blk_cell BK308.out 3).trans rfl; have hfz25_0 := blk_frozen BK308.out 0; have hfz25_1 := blk_frozen BK308.out 1; have hfz25_2 := blk_frozen BK308.out 2; have hfz25_3 := blk_frozen BK308.out 3))
    go_meet
    case rel => exact ⟨_, (t316), (t317), ((⟨#[]⟩ : ByteArray)), (t315), H', ⟨by first | omega | exact Nat.le_refl _⟩, ⟨by (with_reducible repeat (first | refine blk_drewN ?_ _ | refine blk_drew ?_ | refine blk_alloc ?_ _)); refine blk_far ?_ NB301_308.out _; exact bb_ BK301⟩, ⟨by (with_reducible repeat (first | refine blk_drewN ?_ _ | refine blk_drew ?_ | refine blk_alloc ?_ _)); refine blk_put (cs := #[.int .i64 (wrap64 (1 + t302)), .string t305, .string (⟨#[]⟩ : ByteArray), .string (⟨#[]⟩ : ByteArray)]) ?_ 3 _ rfl; exact bb_ BK308⟩, ⟨ii_ HI0⟩, ⟨kk_ HK⟩, ⟨hj_ HB⟩⟩
   ·rw [if_neg c20] at H
    have c20b0 : ((wrap64 (1 + t302)) == 3) = false := beq_eq_false_iff_ne.mpr c20
    have c20b1 : ((wrap64 (1 + t302)) != 3) = true := bne_iff_ne.mpr c20
    have H' := Aside0.mk H
    clear H
    go_wp2
    go_meet
    case rel => exact ⟨_, (t306), (t307), ((⟨#[]⟩ : ByteArray)), ((⟨#[]⟩ : ByteArray)), H', ⟨by first | omega | exact Nat.le_refl _⟩, ⟨by (with_reducible repeat (first | refine blk_drewN ?_ _ | refine blk_drew ?_ | refine blk_alloc ?_ _)); refine blk_far ?_ NB301_308.out _; refine blk_far ?_ NB301_308.out _; refine blk_far ?_ NB301_308.out _; refine blk_far ?_ NB301_308.out _; exact bb_ BK301⟩, ⟨by (with_reducible repeat (first | refine blk_drewN ?_ _ | refine blk_drew ?_ | refine blk_alloc ?_ _)); refine blk_put (cs := #[.int .i64 (wrap64 (1 + t302)), .string t305, .string (⟨#[]⟩ : ByteArray), .string (⟨#[]⟩ : ByteArray)]) ?_ 3 _ rfl; refine blk_put (cs := #[.int .i64 (wrap64 (1 + t302)), .string t305, .string (⟨#[]⟩ : ByteArray), .string (⟨#[]⟩ : ByteArray)]) ?_ 2 _ rfl; refine blk_put (cs := #[.int .i64 (wrap64 (1 + t302)), .string (⟨#[]⟩ : ByteArray), .string (⟨#[]⟩ : ByteArray), .string (⟨#[]⟩ : ByteArray)]) ?_ 1 _ rfl; refine blk_put (cs := #[.int .i64 0, .string (⟨#[]⟩ : ByteArray), .string (⟨#[]⟩ : ByteArray), .string (⟨#[]⟩ : ByteArray)]) ?_ 0 _ rfl; exact bb_ BK308⟩, ⟨ii_ HI0⟩, ⟨kk_ HK⟩, ⟨hj_ HB⟩⟩
 case rest =>
  clear HC4
  try clear c1
  try clear c2
  try clear p2
  try clear c6
  try clear p6
  try clear c8
  try clear c9
  try clear c10
  try clear c12
  try clear c12b0
  try clear c12b1
  try clear c17
  try clear c18
  try clear c20
  try clear c20b0
  try clear c20b1
  try clear c23
  try clear c24
  try clear hcz11_0
  try clear hcz11_1
  try clear hcz11_2
  try clear hcz11_3
  try clear hcz19_0
  try clear hcz19_1
  try clear hcz19_2
  try clear hcz19_3
  try clear hcz25_0
  try clear hcz25_1
  try clear hcz25_2
  try clear hcz25_3
  try clear hfz11_0
  try clear hfz11_1
  try clear hfz11_2
  try clear hfz11_3
  try clear hfz19_0
  try clear hfz19_1
  try clear hfz19_2
  try clear hfz19_3
  try clear hfz25_0
  try clear hfz25_1
  try clear hfz25_2
  try clear hfz25_3
  obtain ⟨kq, x1001_3, x1002_3, x309002_3, x309003_3, HA, HJ3, BK301, BK308, HI0, HK, HB⟩ := hcut
  cases kq with
  | zero => exact absurd HA.out (by simp [spec_l03Act.j0])
  | succ kj3 =>
   have H := HA.out
   clear HA
   simp only [spec_l03Act.j0] at H
   replace H := Option.bind_eq_some_iff.mp H
   obtain ⟨⟨t318, t319, t320⟩, A260, H⟩ := H
   replace H : (if t318 = 0 then ((spec_l01PickInt.f s0_0 t319 t320 (([0, 5] : List Int))).bind fun bt324 => (some (bt324.1, t305, x309002_3, x309003_3, bt324.2.1, bt324.2.2))) else (if t318 = 1 then ((spec_l01Pick.f s0_0 t319 t320 (([(⟨#[]⟩ : ByteArray), (⟨#[49, 50, 51, 52, 53, 54, 55, 56, 57]⟩ : ByteArray), (⟨#[110, 101, 119]⟩ : ByteArray)] : List ByteArray))).bind fun bt330 => (some ((wrap64 (1 + t302)), bt330.1, x309002_3, x309003_3, bt330.2.1, bt330.2.2))) else (if t318 = 2 then (some ((wrap64 (1 + t302)), t305, x309002_3, (⟨#[120]⟩ : ByteArray), t319, t320)) else (if t318 = 3 then (some ((wrap64 (1 + t302)), t305, (⟨#[120]⟩ : ByteArray), x309003_3, t319, t320)) else (some ((wrap64 (1 + t302)), t305, x309002_3, x309003_3, t319, t320)))))) = some (r1, r2, r3, r4, r5, r6) := H
   have A26 := Aside0.mk A260
   clear A260
   by_cases c27 : t318 = 0
   ·rw [if_pos c27] at H
    have c27b0 : (t318 == 0) = true := beq_iff_eq.mpr c27
    have c27b1 : (t318 != 0) = false := bne_eq_false_iff_eq.mpr c27
    clear c27
    obtain ⟨y321, hy321⟩ : ∃ y_ : List Int, y_ = (([0, 5] : List Int)) := ⟨_, rfl⟩
    replace H : ((spec_l01PickInt.f s0_0 t319 t320 y321).bind fun bt324 => (some (bt324.1, t305, x309002_3, x309003_3, bt324.2.1, bt324.2.2))) = some (r1, r2, r3, r4, r5, r6) := by first | (rw [hy321]; with_reducible exact H) | (have H2_ := (Option.bind_some _ _).symm.trans H; rw [hy321]; with_reducible exact H2_) | (have H2_ := (Option.bind_some _ _).symm.trans H; with_reducible exact H2_) | with_reducible exact H | (rw [hy321]; exact H) | exact H
    have Ny321 := Aside0.mk hy321
    clear hy321
    replace H := Option.bind_eq_some_iff.mp H
    obtain ⟨⟨t324, t325, t326⟩, A280, H⟩ := H
    replace H : (some (t324, t305, x309002_3, x309003_3, t325, t326)) = some (r1, r2, r3, r4, r5, r6) := H
    have A28 := Aside0.mk A280
    clear A280
    simp only [Option.some.injEq, Prod.mk.injEq] at H
    obtain ⟨rfl, rfl, rfl, rfl, rfl, rfl⟩ := H
    go_wp2_with (first | ((with_reducible refine gate_callee (f := 65) rfl ?_); refine goesL_ (some 25) rfl rfl Try.func65 (by kernel_rfl) rfl #[.pointer (some ⟨g, 0, none⟩), .int .i64 40] rfl (by (try simp only [List.map_toArray, List.map_cons, List.map_nil]); first | done | rfl | (simp only [List.length_drop, List.length_take]; rfl)) ?_; (with_reducible refine (spec_l01Below.calls g s0_0 x1001_3 x1002_3 40 t318 t319 t320 w0 _ ?side1 ?side2 A26.out).mono ?_); (case side1 => exact ii_ HI0); (case side2 => exact hj_ HB); rintro e w29 ⟨rfl, hi, hb, hk⟩; refine ⟨_, rfl, ?_⟩; have n0_ := Aside0.mk (KeepBut.blk hk (g' := gb301) (o := .cells #[.int .i64 0, .string (⟨#[]⟩ : ByteArray), .string (⟨#[]⟩ : ByteArray), .string (⟨#[]⟩ : ByteArray)] 41 (0, 0)) (bb_ BK301) NB301_0.out (by simp)); have n1_ := Aside0.mk (KeepBut.blk hk (g' := gb308) (o := .cells #[.int .i64 (wrap64 (1 + t302)), .string t305, .string x309002_3, .string x309003_3] 41 (0, 0)) (bb_ BK308) NB308_0.out (by simp)); have n2_ := Aside0.mk (KeepBut.trans (kk_ HK) hk (.inl rfl)); have n3_ := Aside0.mk (hb); have n4_ := Aside0.mk (hi); clear BK301 BK308 HK HB HI0; have BK301 := n0_; have BK308 := n1_; have HK := n2_; have HB := n3_; have HI0 := n4_; clear n0_ n1_ n2_ n3_ n4_; (try clear hb); (try clear hb2); (try clear hk); (try clear hi)) | ((with_reducible refine gate_dst (N := 29) rfl ?_); refine Kd.R_lit (Kd.int .i64) _ 3 ?hg (N := 29) ?hd (xs := ([0, 5] : List Int)) (inner := [.int .i64 0, .int .i64 5]) (ok := fun _ => True) (okp := fun _ => True) ?hr ?hp (fun _ hk => hk) trivial (Below.refl _ _) (Nat.le_refl _) (by simp) ?_; (case hd => rfl); (case hg => rfl); (case hr => first | (go_simp; done) | (go_simp; rfl)); (case hp => exact (Reps.one (show Kd.M (Kd.int .i64) _ _ _ 0 [.int .i64 0] from rfl) (Reps.one (show Kd.M (Kd.int .i64) _ _ _ 5 [.int .i64 5] from rfl) (Reps.none _ _)))); intro v322 w30 ho31 hb hg_ hnew_; clear hg_ hnew_; (first | rw [← Ny321.out] at ho31 | (simp only [Int.reduceToNat] at ho31; rw [← Ny321.out] at ho31)); have n0_ := Aside0.mk (Kd.R_lower ho31 (keep_size (w := w) (g := g) (row := none) (kk_ HK))); have n1_ := Aside0.mk (blk_below (bb_ BK301) hb); have n2_ := Aside0.mk (blk_below (bb_ BK308) hb); have n3_ := Aside0.mk (IsS101.below (ii_ HI0) hb); have n4_ := Aside0.mk (KeepBut.trans (kk_ HK) (KeepBut.of_below hb g none) (.inl rfl)); have n5_ := Aside0.mk (below_step (hj_ HB) hb); clear BK301 BK308 HI0 HK HB; have HO323 := n0_; have BK301 := n1_; have BK308 := n2_; have HI0 := n3_; have HK := n4_; have HB := n5_; clear n0_ n1_ n2_ n3_ n4_ n5_ hb ho31; obtain ⟨Ao32, co32, eo32⟩ := Kd.R_slice HO323.out; subst eo32) | ((with_reducible refine gate_callee (f := 77) rfl ?_); refine goesL_ (some 30) rfl rfl Try.func77 (by kernel_rfl) rfl #[.pointer (some ⟨g, 0, none⟩), .slice Ao32 y321.length co32] rfl (by (try simp only [List.map_toArray, List.map_cons, List.map_nil]); first | done | rfl | (simp only [List.length_drop, List.length_take]; rfl)) ?_; (with_reducible refine (spec_l01PickInt.calls g s0_0 t319 t320 _ _ y321 t324 t325 t326 w0 _ ?side1 ?side2 ?side3 ?side4 ?side5 A28.out).mono ?_); (case side1 => exact ii_ HI0); (case side2 => exact hj_ HB); (case side3 => repeat (first | exact (Kd.R_reads' HO323.out).2.2 | (with_reducible refine Kd.C_alloc ?_ _) | (with_reducible refine Kd.C_drewN ?_ _) | (with_reducible refine Kd.C_drew ?_))); (case side4 => exact (Kd.R_reads' HO323.out).2.1); (case side5 => exact far_slice (IsS101.own_ne HI0.out HO323.out (by decide))); rintro e w33 ⟨rfl, hi, hb, hk⟩; refine ⟨_, rfl, ?_⟩; have n0_ := Aside0.mk (KeepBut.blk hk (g' := gb301) (o := .cells #[.int .i64 0, .string (⟨#[]⟩ : ByteArray), .string (⟨#[]⟩ : ByteArray), .string (⟨#[]⟩ : ByteArray)] 41 (0, 0)) (bb_ BK301) NB301_0.out (by simp)); have n1_ := Aside0.mk (KeepBut.blk hk (g' := gb308) (o := .cells #[.int .i64 (wrap64 (1 + t302)), .string t305, .string x309002_3, .string x309003_3] 41 (0, 0)) (bb_ BK308) NB308_0.out (by simp)); have n2_ := Aside0.mk (Kd.R_mono (Kd.R_keep (IsS101.apart (show IsS101 w0 _ g s0_0 t319 t320 from ii_ HI0) (rr_ HO323) (by decide)) hk (fun _ h => h.2)) (fun _ h => h.1)); have n3_ := Aside0.mk (KeepBut.trans (kk_ HK) hk (.inl rfl)); have n4_ := Aside0.mk (hb); have n5_ := Aside0.mk (hi); clear BK301 BK308 HO323 HK HB HI0; have BK301 := n0_; have BK308 := n1_; have HO323 := n2_; have HK := n3_; have HB := n4_; have HI0 := n5_; clear n0_ n1_ n2_ n3_ n4_ n5_; (try clear hb); (try clear hb2); (try clear hk); (try clear hi); have hnb34 := NB308_301.out; have hnc34 := NB301_308.out; have hnb35 := NB308_0.out; have hnc35 := NB0_308.out; have hcz36_0 : w33.cell? ⟨gb308, 0, none⟩ = some (.int .i64 (wrap64 (1 + t302))) := (blk_cell BK308.out 0).trans rfl; have hcz36_1 : w33.cell? ⟨gb308, 1, none⟩ = some (.string t305) := (blk_cell BK308.out 1).trans rfl; have hcz36_2 : w33.cell? ⟨gb308, 2, none⟩ = some (.string x309002_3) := (blk_cell BK308.out 2).trans rfl; have hcz36_3 : w33.cell? ⟨gb308, 3, none⟩ = some (.string x309003_3) := (blk_cell BK308.out 3).trans rfl; have hfz36_0 := blk_frozen BK308.out 0; have hfz36_1 := blk_frozen BK308.out 1; have hfz36_2 := blk_frozen BK308.out 2; have hfz36_3 := blk_frozen BK308.out 3; have hnb37 := NB301_0.out; have hnc37 := NB0_301.out; have hcz38_0 : w33.cell? ⟨gb301, 0, none⟩ = some (.int .i64 0) := (blk_cell BK301.out 0).trans rfl; have hcz38_1 : w33.cell? ⟨gb301, 1, none⟩ = some (.string (⟨#[]⟩ : ByteArray)) := (blk_cell BK301.out 1).trans rfl; have hcz38_2 : w33.cell? ⟨gb301, 2, none⟩ = some (.string (⟨#[]⟩ : ByteArray)) := (blk_cell BK301.out 2).trans rfl; have hcz38_3 : w33.cell? ⟨gb301, 3, none⟩ = some (.string (⟨#[]⟩ : ByteArray)) := (blk_cell BK301.out 3).trans rfl; have hfz38_0 := blk_frozen BK301.out 0; have hfz38_1 := blk_frozen BK301.out 1; have hfz38_2 := blk_frozen BK301.out 2; have hfz38_3 := blk_frozen BK301.out 3))
    refine bodyPost_ret (results_cell_row rfl _ _ gb301 41 #[.int .i64 t324, .string t305, .string x309002_3, .string x309003_3] (0, 0) _ rfl (by (with_reducible repeat (first | refine blk_drewN ?_ _ | refine blk_drew ?_ | refine blk_alloc ?_ _)); refine blk_put (cs := #[.int .i64 t324, .string t305, .string x309002_3, .string (⟨#[]⟩ : ByteArray)]) ?_ 3 _ rfl; refine blk_put (cs := #[.int .i64 t324, .string t305, .string (⟨#[]⟩ : ByteArray), .string (⟨#[]⟩ : ByteArray)]) ?_ 2 _ rfl; refine blk_put (cs := #[.int .i64 t324, .string (⟨#[]⟩ : ByteArray), .string (⟨#[]⟩ : ByteArray), .string (⟨#[]⟩ : ByteArray)]) ?_ 1 _ rfl; refine blk_put (cs := #[.int .i64 0, .string (⟨#[]⟩ : ByteArray), .string (⟨#[]⟩ : ByteArray), .string (⟨#[]⟩ : ByteArray)]) ?_ 0 _ rfl; refine blk_far ?_ NB301_308.out _; exact bb_ BK301) Try.underlying41 rfl (by kernel_rfl)) rfl ?_
    exact ⟨by first | rfl | (simp [errW_none, errW_some] <;> rfl) | (simp [*, errW_none, errW_some] <;> rfl), by repeat (first | (with_reducible first | exact HI0.out | apply IsS101.alloc | apply IsS101.drewN | apply IsS101.drew | apply IsS101.set_1 | apply IsS101.set_2 | refine IsS101.far ?_ NB0_301.out _ | refine IsS101.far ?_ NB0_308.out _) | exact HI0.out), by repeat (first | (with_reducible first | exact HB.out | apply below_alloc | apply pw_below_drewN | apply below_drew1 | refine below_set ?_ (IsS101.ge HI0.out) | refine below_set ?_ GE301.out | refine below_set ?_ GE308.out) | exact HB.out), by repeat (first | (with_reducible first | exact HK.out | apply KeepBut.set_ | apply keep_drewN | apply keep_drew | apply keep_alloc | refine keep_far ?_ GW301.out _ | refine keep_far ?_ GW308.out _) | exact HK.out)⟩
   ·rw [if_neg c27] at H
    have c27b0 : (t318 == 0) = false := beq_eq_false_iff_ne.mpr c27
    have c27b1 : (t318 != 0) = true := bne_iff_ne.mpr c27
    by_cases c39 : t318 = 1
    ·rw [if_pos c39] at H
     have c39b0 : (t318 == 1) = true := beq_iff_eq.mpr c39
     have c39b1 : (t318 != 1) = false := bne_eq_false_iff_eq.mpr c39
     clear c39
     obtain ⟨y327, hy327⟩ : ∃ y_ : List ByteArray, y_ = (([(⟨#[]⟩ : ByteArray), (⟨#[49, 50, 51, 52, 53, 54, 55, 56, 57]⟩ : ByteArray), (⟨#[110, 101, 119]⟩ : ByteArray)] : List ByteArray)) := ⟨_, rfl⟩
     replace H : ((spec_l01Pick.f s0_0 t319 t320 y327).bind fun bt330 => (some ((wrap64 (1 + t302)), bt330.1, x309002_3, x309003_3, bt330.2.1, bt330.2.2))) = some (r1, r2, r3, r4, r5, r6) := by first | (rw [hy327]; with_reducible exact H) | (have H2_ := (Option.bind_some _ _).symm.trans H; rw [hy327]; with_reducible exact H2_) | (have H2_ := (Option.bind_some _ _).symm.trans H; with_reducible exact H2_) | with_reducible exact H | (rw [hy327]; exact H) | exact H
     have Ny327 := Aside0.mk hy327
     clear hy327
     replace H := Option.bind_eq_some_iff.mp H
     obtain ⟨⟨t330, t331, t332⟩, A400, H⟩ := H
     replace H : (some ((wrap64 (1 + t302)), t330, x309002_3, x309003_3, t331, t332)) = some (r1, r2, r3, r4, r5, r6) := H
     have A40 := Aside0.mk A400
     clear A400
     simp only [Option.some.injEq, Prod.mk.injEq] at H
     obtain ⟨rfl, rfl, rfl, rfl, rfl, rfl⟩ := H
     go_wp2_with (first | ((with_reducible refine gate_callee (f := 65) rfl ?_); refine goesL_ (some 25) rfl rfl Try.func65 (by kernel_rfl) rfl #[.pointer (some ⟨g, 0, none⟩), .int .i64 40] rfl (by (try simp only [List.map_toArray, List.map_cons, List.map_nil]); first | done | rfl | (simp only [List.length_drop, List.length_take]; rfl)) ?_; (with_reducible refine (spec_l01Below.calls g s0_0 x1001_3 x1002_3 40 t318 t319 t320 w0 _ ?side1 ?side2 A26.out).mono ?_); (case side1 => exact ii_ HI0); (case side2 => exact hj_ HB); rintro e w41 ⟨rfl, hi, hb, hk⟩; refine ⟨_, rfl, ?_⟩; have n0_ := Aside0.mk (KeepBut.blk hk (g' := gb301) (o := .cells #[.int .i64 0, .string (⟨#[]⟩ : ByteArray), .string (⟨#[]⟩ : ByteArray), .string (⟨#[]⟩ : ByteArray)] 41 (0, 0)) (bb_ BK301) NB301_0.out (by simp)); have n1_ := Aside0.mk (KeepBut.blk hk (g' := gb308) (o := .cells #[.int .i64 (wrap64 (1 + t302)), .string t305, .string x309002_3, .string x309003_3] 41 (0, 0)) (bb_ BK308) NB308_0.out (by simp)); have n2_ := Aside0.mk (KeepBut.trans (kk_ HK) hk (.inl rfl)); have n3_ := Aside0.mk (hb); have n4_ := Aside0.mk (hi); clear BK301 BK308 HK HB HI0; have BK301 := n0_; have BK308 := n1_; have HK := n2_; have HB := n3_; have HI0 := n4_; clear n0_ n1_ n2_ n3_ n4_; (try clear hb); (try clear hb2); (try clear hk); (try clear hi)) | ((with_reducible refine gate_dst (N := 35) rfl ?_); refine Kd.R_lit Kd.string _ 9 ?hg (N := 35) ?hd (xs := ([(⟨#[]⟩ : ByteArray), (⟨#[49, 50, 51, 52, 53, 54, 55, 56, 57]⟩ : ByteArray), (⟨#[110, 101, 119]⟩ : ByteArray)] : List ByteArray)) (inner := [.string (⟨#[]⟩ : ByteArray), .string (⟨#[49, 50, 51, 52, 53, 54, 55, 56, 57]⟩ : ByteArray), .string (⟨#[110, 101, 119]⟩ : ByteArray)]) (ok := fun _ => True) (okp := fun _ => True) ?hr ?hp (fun _ hk => hk) trivial (Below.refl _ _) (Nat.le_refl _) (by simp) ?_; (case hd => rfl); (case hg => rfl); (case hr => first | (go_simp; done) | (go_simp; rfl)); (case hp => exact (Reps.one (show Kd.M Kd.string _ _ _ (⟨#[]⟩ : ByteArray) [.string (⟨#[]⟩ : ByteArray)] from rfl) (Reps.one (show Kd.M Kd.string _ _ _ (⟨#[49, 50, 51, 52, 53, 54, 55, 56, 57]⟩ : ByteArray) [.string (⟨#[49, 50, 51, 52, 53, 54, 55, 56, 57]⟩ : ByteArray)] from rfl) (Reps.one (show Kd.M Kd.string _ _ _ (⟨#[110, 101, 119]⟩ : ByteArray) [.string (⟨#[110, 101, 119]⟩ : ByteArray)] from rfl) (Reps.none _ _))))); intro v328 w42 ho43 hb hg_ hnew_; clear hg_ hnew_; (first | rw [← Ny327.out] at ho43 | (simp only [Int.reduceToNat] at ho43; rw [← Ny327.out] at ho43)); have n0_ := Aside0.mk (Kd.R_lower ho43 (keep_size (w := w) (g := g) (row := none) (kk_ HK))); have n1_ := Aside0.mk (blk_below (bb_ BK301) hb); have n2_ := Aside0.mk (blk_below (bb_ BK308) hb); have n3_ := Aside0.mk (IsS101.below (ii_ HI0) hb); have n4_ := Aside0.mk (KeepBut.trans (kk_ HK) (KeepBut.of_below hb g none) (.inl rfl)); have n5_ := Aside0.mk (below_step (hj_ HB) hb); clear BK301 BK308 HI0 HK HB; have HO329 := n0_; have BK301 := n1_; have BK308 := n2_; have HI0 := n3_; have HK := n4_; have HB := n5_; clear n0_ n1_ n2_ n3_ n4_ n5_ hb ho43; obtain ⟨Ao44, co44, eo44⟩ := Kd.R_slice HO329.out; subst eo44) | ((with_reducible refine gate_callee (f := 76) rfl ?_); refine goesL_ (some 36) rfl rfl Try.func76 (by kernel_rfl) rfl #[.pointer (some ⟨g, 0, none⟩), .slice Ao44 y327.length co44] rfl (by (try simp only [List.map_toArray, List.map_cons, List.map_nil]); first | done | rfl | (simp only [List.length_drop, List.length_take]; rfl)) ?_; (with_reducible refine (spec_l01Pick.calls g s0_0 t319 t320 _ _ y327 t330 t331 t332 w0 _ ?side1 ?side2 ?side3 ?side4 ?side5 A40.out).mono ?_); (case side1 => exact ii_ HI0); (case side2 => exact hj_ HB); (case side3 => repeat (first | exact (Kd.R_reads' HO329.out).2.2 | (with_reducible refine Kd.C_alloc ?_ _) | (with_reducible refine Kd.C_drewN ?_ _) | (with_reducible refine Kd.C_drew ?_))); (case side4 => exact (Kd.R_reads' HO329.out).2.1); (case side5 => exact far_slice (IsS101.own_ne HI0.out HO329.out (by decide))); rintro e w45 ⟨rfl, hi, hb, hk⟩; refine ⟨_, rfl, ?_⟩; have n0_ := Aside0.mk (KeepBut.blk hk (g' := gb301) (o := .cells #[.int .i64 0, .string (⟨#[]⟩ : ByteArray), .string (⟨#[]⟩ : ByteArray), .string (⟨#[]⟩ : ByteArray)] 41 (0, 0)) (bb_ BK301) NB301_0.out (by simp)); have n1_ := Aside0.mk (KeepBut.blk hk (g' := gb308) (o := .cells #[.int .i64 (wrap64 (1 + t302)), .string t305, .string x309002_3, .string x309003_3] 41 (0, 0)) (bb_ BK308) NB308_0.out (by simp)); have n2_ := Aside0.mk (Kd.R_mono (Kd.R_keep (IsS101.apart (show IsS101 w0 _ g s0_0 t319 t320 from ii_ HI0) (rr_ HO329) (by decide)) hk (fun _ h => h.2)) (fun _ h => h.1)); have n3_ := Aside0.mk (KeepBut.trans (kk_ HK) hk (.inl rfl)); have n4_ := Aside0.mk (hb); have n5_ := Aside0.mk (hi); clear BK301 BK308 HO329 HK HB HI0; have BK301 := n0_; have BK308 := n1_; have HO329 := n2_; have HK := n3_; have HB := n4_; have HI0 := n5_; clear n0_ n1_ n2_ n3_ n4_ n5_; (try clear hb); (try clear hb2); (try clear hk); (try clear hi); have hnb46 := NB308_301.out; have hnc46 := NB301_308.out; have hnb47 := NB308_0.out; have hnc47 := NB0_308.out; have hcz48_0 : w45.cell? ⟨gb308, 0, none⟩ = some (.int .i64 (wrap64 (1 + t302))) := (blk_cell BK308.out 0).trans rfl; have hcz48_1 : w45.cell? ⟨gb308, 1, none⟩ = some (.string t305) := (blk_cell BK308.out 1).trans rfl; have hcz48_2 : w45.cell? ⟨gb308, 2, none⟩ = some (.string x309002_3) := (blk_cell BK308.out 2).trans rfl; have hcz48_3 : w45.cell? ⟨gb308, 3, none⟩ = some (.string x309003_3) := (blk_cell BK308.out 3).trans rfl; have hfz48_0 := blk_frozen BK308.out 0; have hfz48_1 := blk_frozen BK308.out 1; have hfz48_2 := blk_frozen BK308.out 2; have hfz48_3 := blk_frozen BK308.out 3; have hnb49 := NB301_0.out; have hnc49 := NB0_301.out; have hcz50_0 : w45.cell? ⟨gb301, 0, none⟩ = some (.int .i64 0) := (blk_cell BK301.out 0).trans rfl; have hcz50_1 : w45.cell? ⟨gb301, 1, none⟩ = some (.string (⟨#[]⟩ : ByteArray)) := (blk_cell BK301.out 1).trans rfl; have hcz50_2 : w45.cell? ⟨gb301, 2, none⟩ = some (.string (⟨#[]⟩ : ByteArray)) := (blk_cell BK301.out 2).trans rfl; have hcz50_3 : w45.cell? ⟨gb301, 3, none⟩ = some (.string (⟨#[]⟩ : ByteArray)) := (blk_cell BK301.out 3).trans rfl; have hfz50_0 := blk_frozen BK301.out 0; have hfz50_1 := blk_frozen BK301.out 1; have hfz50_2 := blk_frozen BK301.out 2; have hfz50_3 := blk_frozen BK301.out 3))
     refine bodyPost_ret (results_cell_row rfl _ _ gb301 41 #[.int .i64 (wrap64 (1 + t302)), .string t330, .string x309002_3, .string x309003_3] (0, 0) _ rfl (by (with_reducible repeat (first | refine blk_drewN ?_ _ | refine blk_drew ?_ | refine blk_alloc ?_ _)); refine blk_put (cs := #[.int .i64 (wrap64 (1 + t302)), .string t330, .string x309002_3, .string (⟨#[]⟩ : ByteArray)]) ?_ 3 _ rfl; refine blk_put (cs := #[.int .i64 (wrap64 (1 + t302)), .string t330, .string (⟨#[]⟩ : ByteArray), .string (⟨#[]⟩ : ByteArray)]) ?_ 2 _ rfl; refine blk_put (cs := #[.int .i64 (wrap64 (1 + t302)), .string (⟨#[]⟩ : ByteArray), .string (⟨#[]⟩ : ByteArray), .string (⟨#[]⟩ : ByteArray)]) ?_ 1 _ rfl; refine blk_put (cs := #[.int .i64 0, .string (⟨#[]⟩ : ByteArray), .string (⟨#[]⟩ : ByteArray), .string (⟨#[]⟩ : ByteArray)]) ?_ 0 _ rfl; refine blk_far ?_ NB301_308.out _; exact bb_ BK301) Try.underlying41 rfl (by kernel_rfl)) rfl ?_
     exact ⟨by first | rfl | (simp [errW_none, errW_some] <;> rfl) | (simp [*, errW_none, errW_some] <;> rfl), by repeat (first | (with_reducible first | exact HI0.out | apply IsS101.alloc | apply IsS101.drewN | apply IsS101.drew | apply IsS101.set_1 | apply IsS101.set_2 | refine IsS101.far ?_ NB0_301.out _ | refine IsS101.far ?_ NB0_308.out _) | exact HI0.out), by repeat (first | (with_reducible first | exact HB.out | apply below_alloc | apply pw_below_drewN | apply below_drew1 | refine below_set ?_ (IsS101.ge HI0.out) | refine below_set ?_ GE301.out | refine below_set ?_ GE308.out) | exact HB.out), by repeat (first | (with_reducible first | exact HK.out | apply KeepBut.set_ | apply keep_drewN | apply keep_drew | apply keep_alloc | refine keep_far ?_ GW301.out _ | refine keep_far ?_ GW308.out _) | exact HK.out)⟩
    ·rw [if_neg c39] at H
     have c39b0 : (t318 == 1) = false := beq_eq_false_iff_ne.mpr c39
     have c39b1 : (t318 != 1) = true := bne_iff_ne.mpr c39
     by_cases c51 : t318 = 2
     ·rw [if_pos c51] at H
      have c51b0 : (t318 == 2) = true := beq_iff_eq.mpr c51
      have c51b1 : (t318 != 2) = false := bne_eq_false_iff_eq.mpr c51
      clear c51
      simp only [Option.some.injEq, Prod.mk.injEq] at H
      obtain ⟨rfl, rfl, rfl, rfl, rfl, rfl⟩ := H
      go_wp2_with (first | ((with_reducible refine gate_callee (f := 65) rfl ?_); refine goesL_ (some 25) rfl rfl Try.func65 (by kernel_rfl) rfl #[.pointer (some ⟨g, 0, none⟩), .int .i64 40] rfl (by (try simp only [List.map_toArray, List.map_cons, List.map_nil]); first | done | rfl | (simp only [List.length_drop, List.length_take]; rfl)) ?_; (with_reducible refine (spec_l01Below.calls g s0_0 x1001_3 x1002_3 40 t318 t319 t320 w0 _ ?side1 ?side2 A26.out).mono ?_); (case side1 => exact ii_ HI0); (case side2 => exact hj_ HB); rintro e w52 ⟨rfl, hi, hb, hk⟩; refine ⟨_, rfl, ?_⟩; have n0_ := Aside0.mk (KeepBut.blk hk (g' := gb301) (o := .cells #[.int .i64 0, .string (⟨#[]⟩ : ByteArray), .string (⟨#[]⟩ : ByteArray), .string (⟨#[]⟩ : ByteArray)] 41 (0, 0)) (bb_ BK301) NB301_0.out (by simp)); have n1_ := Aside0.mk (KeepBut.blk hk (g' := gb308) (o := .cells #[.int .i64 (wrap64 (1 + t302)), .string t305, .string x309002_3, .string x309003_3] 41 (0, 0)) (bb_ BK308) NB308_0.out (by simp)); have n2_ := Aside0.mk (KeepBut.trans (kk_ HK) hk (.inl rfl)); have n3_ := Aside0.mk (hb); have n4_ := Aside0.mk (hi); clear BK301 BK308 HK HB HI0; have BK301 := n0_; have BK308 := n1_; have HK := n2_; have HB := n3_; have HI0 := n4_; clear n0_ n1_ n2_ n3_ n4_; (try clear hb); (try clear hb2); (try clear hk); (try clear hi); have hnb53 := NB308_301.out; have hnc53 := NB301_308.out; have hnb54 := NB308_0.out; have hnc54 := NB0_308.out; have hcz55_0 : w52.cell? ⟨gb308, 0, none⟩ = some (.int .i64 (wrap64 (1 + t302))) := (blk_cell BK308.out 0).trans rfl; have hcz55_1 : w52.cell? ⟨gb308, 1, none⟩ = some (.string t305) := (blk_cell BK308.out 1).trans rfl; have hcz55_2 : w52.cell? ⟨gb308, 2, none⟩ = some (.string x309002_3) := (blk_cell BK308.out 2).trans rfl; have hcz55_3 : w52.cell? ⟨gb308, 3, none⟩ = some (.string x309003_3) := (blk_cell BK308.out 3).trans rfl; have hfz55_0 := blk_frozen BK308.out 0; have hfz55_1 := blk_frozen BK308.out 1; have hfz55_2 := blk_frozen BK308.out 2; have hfz55_3 := blk_frozen BK308.out 3; have hnb56 := NB301_0.out; have hnc56 := NB0_301.out; have hcz57_0 : w52.cell? ⟨gb301, 0, none⟩ = some (.int .i64 0) := (blk_cell BK301.out 0).trans rfl; have hcz57_1 : w52.cell? ⟨gb301, 1, none⟩ = some (.string (⟨#[]⟩ : ByteArray)) := (blk_cell BK301.out 1).trans rfl; have hcz57_2 : w52.cell? ⟨gb301, 2, none⟩ = some (.string (⟨#[]⟩ : ByteArray)) := (blk_cell BK301.out 2).trans rfl; have hcz57_3 : w52.cell? ⟨gb301, 3, none⟩ = some (.string (⟨#[]⟩ : ByteArray)) := (blk_cell BK301.out 3).trans rfl; have hfz57_0 := blk_frozen BK301.out 0; have hfz57_1 := blk_frozen BK301.out 1; have hfz57_2 := blk_frozen BK301.out 2; have hfz57_3 := blk_frozen BK301.out 3))
      refine bodyPost_ret (results_cell_row rfl _ _ gb301 41 #[.int .i64 (wrap64 (1 + t302)), .string t305, .string x309002_3, .string (⟨#[120]⟩ : ByteArray)] (0, 0) _ rfl (by (with_reducible repeat (first | refine blk_drewN ?_ _ | refine blk_drew ?_ | refine blk_alloc ?_ _)); refine blk_put (cs := #[.int .i64 (wrap64 (1 + t302)), .string t305, .string x309002_3, .string (⟨#[]⟩ : ByteArray)]) ?_ 3 _ rfl; refine blk_put (cs := #[.int .i64 (wrap64 (1 + t302)), .string t305, .string (⟨#[]⟩ : ByteArray), .string (⟨#[]⟩ : ByteArray)]) ?_ 2 _ rfl; refine blk_put (cs := #[.int .i64 (wrap64 (1 + t302)), .string (⟨#[]⟩ : ByteArray), .string (⟨#[]⟩ : ByteArray), .string (⟨#[]⟩ : ByteArray)]) ?_ 1 _ rfl; refine blk_put (cs := #[.int .i64 0, .string (⟨#[]⟩ : ByteArray), .string (⟨#[]⟩ : ByteArray), .string (⟨#[]⟩ : ByteArray)]) ?_ 0 _ rfl; refine blk_far ?_ NB301_308.out _; exact bb_ BK301) Try.underlying41 rfl (by kernel_rfl)) rfl ?_
      exact ⟨by first | rfl | (simp [errW_none, errW_some] <;> rfl) | (simp [*, errW_none, errW_some] <;> rfl), by repeat (first | (with_reducible first | exact HI0.out | apply IsS101.alloc | apply IsS101.drewN | apply IsS101.drew | apply IsS101.set_1 | apply IsS101.set_2 | refine IsS101.far ?_ NB0_301.out _ | refine IsS101.far ?_ NB0_308.out _) | exact HI0.out), by repeat (first | (with_reducible first | exact HB.out | apply below_alloc | apply pw_below_drewN | apply below_drew1 | refine below_set ?_ (IsS101.ge HI0.out) | refine below_set ?_ GE301.out | refine below_set ?_ GE308.out) | exact HB.out), by repeat (first | (with_reducible first | exact HK.out | apply KeepBut.set_ | apply keep_drewN | apply keep_drew | apply keep_alloc | refine keep_far ?_ GW301.out _ | refine keep_far ?_ GW308.out _) | exact HK.out)⟩
     ·rw [if_neg c51] at H
      have c51b0 : (t318 == 2) = false := beq_eq_false_iff_ne.mpr c51
      have c51b1 : (t318 != 2) = true := bne_iff_ne.mpr c51
      by_cases c58 : t318 = 3
      ·rw [if_pos c58] at H
       have c58b0 : (t318 == 3) = true := beq_iff_eq.mpr c58
       have c58b1 : (t318 != 3) = false := bne_eq_false_iff_eq.mpr c58
       clear c58
       simp only [Option.some.injEq, Prod.mk.injEq] at H
       obtain ⟨rfl, rfl, rfl, rfl, rfl, rfl⟩ := H
       go_wp2_with (first | ((with_reducible refine gate_callee (f := 65) rfl ?_); refine goesL_ (some 25) rfl rfl Try.func65 (by kernel_rfl) rfl #[.pointer (some ⟨g, 0, none⟩), .int .i64 40] rfl (by (try simp only [List.map_toArray, List.map_cons, List.map_nil]); first | done | rfl | (simp only [List.length_drop, List.length_take]; rfl)) ?_; (with_reducible refine (spec_l01Below.calls g s0_0 x1001_3 x1002_3 40 t318 t319 t320 w0 _ ?side1 ?side2 A26.out).mono ?_); (case side1 => exact ii_ HI0); (case side2 => exact hj_ HB); rintro e w59 ⟨rfl, hi, hb, hk⟩; refine ⟨_, rfl, ?_⟩; have n0_ := Aside0.mk (KeepBut.blk hk (g' := gb301) (o := .cells #[.int .i64 0, .string (⟨#[]⟩ : ByteArray), .string (⟨#[]⟩ : ByteArray), .string (⟨#[]⟩ : ByteArray)] 41 (0, 0)) (bb_ BK301) NB301_0.out (by simp)); have n1_ := Aside0.mk (KeepBut.blk hk (g' := gb308) (o := .cells #[.int .i64 (wrap64 (1 + t302)), .string t305, .string x309002_3, .string x309003_3] 41 (0, 0)) (bb_ BK308) NB308_0.out (by simp)); have n2_ := Aside0.mk (KeepBut.trans (kk_ HK) hk (.inl rfl)); have n3_ := Aside0.mk (hb); have n4_ := Aside0.mk (hi); clear BK301 BK308 HK HB HI0; have BK301 := n0_; have BK308 := n1_; have HK := n2_; have HB := n3_; have HI0 := n4_; clear n0_ n1_ n2_ n3_ n4_; (try clear hb); (try clear hb2); (try clear hk); (try clear hi); have hnb60 := NB308_301.out; have hnc60 := NB301_308.out; have hnb61 := NB308_0.out; have hnc61 := NB0_308.out; have hcz62_0 : w59.cell? ⟨gb308, 0, none⟩ = some (.int .i64 (wrap64 (1 + t302))) := (blk_cell BK308.out 0).trans rfl; have hcz62_1 : w59.cell? ⟨gb308, 1, none⟩ = some (.string t305) := (blk_cell BK308.out 1).trans rfl; have hcz62_2 : w59.cell? ⟨gb308, 2, none⟩ = some (.string x309002_3) := (blk_cell BK308.out 2).trans rfl; have hcz62_3 : w59.cell? ⟨gb308, 3, none⟩ = some (.string x309003_3) := (blk_cell BK308.out 3).trans rfl; have hfz62_0 := blk_frozen BK308.out 0; have hfz62_1 := blk_frozen BK308.out 1; have hfz62_2 := blk_frozen BK308.out 2; have hfz62_3 := blk_frozen BK308.out 3; have hnb63 := NB301_0.out; have hnc63 := NB0_301.out; have hcz64_0 : w59.cell? ⟨gb301, 0, none⟩ = some (.int .i64 0) := (blk_cell BK301.out 0).trans rfl; have hcz64_1 : w59.cell? ⟨gb301, 1, none⟩ = some (.string (⟨#[]⟩ : ByteArray)) := (blk_cell BK301.out 1).trans rfl; have hcz64_2 : w59.cell? ⟨gb301, 2, none⟩ = some (.string (⟨#[]⟩ : ByteArray)) := (blk_cell BK301.out 2).trans rfl; have hcz64_3 : w59.cell? ⟨gb301, 3, none⟩ = some (.string (⟨#[]⟩ : ByteArray)) := (blk_cell BK301.out 3).trans rfl; have hfz64_0 := blk_frozen BK301.out 0; have hfz64_1 := blk_frozen BK301.out 1; have hfz64_2 := blk_frozen BK301.out 2; have hfz64_3 := blk_frozen BK301.out 3))
       refine bodyPost_ret (results_cell_row rfl _ _ gb301 41 #[.int .i64 (wrap64 (1 + t302)), .string t305, .string (⟨#[120]⟩ : ByteArray), .string x309003_3] (0, 0) _ rfl (by (with_reducible repeat (first | refine blk_drewN ?_ _ | refine blk_drew ?_ | refine blk_alloc ?_ _)); refine blk_put (cs := #[.int .i64 (wrap64 (1 + t302)), .string t305, .string (⟨#[120]⟩ : ByteArray), .string (⟨#[]⟩ : ByteArray)]) ?_ 3 _ rfl; refine blk_put (cs := #[.int .i64 (wrap64 (1 + t302)), .string t305, .string (⟨#[]⟩ : ByteArray), .string (⟨#[]⟩ : ByteArray)]) ?_ 2 _ rfl; refine blk_put (cs := #[.int .i64 (wrap64 (1 + t302)), .string (⟨#[]⟩ : ByteArray), .string (⟨#[]⟩ : ByteArray), .string (⟨#[]⟩ : ByteArray)]) ?_ 1 _ rfl; refine blk_put (cs := #[.int .i64 0, .string (⟨#[]⟩ : ByteArray), .string (⟨#[]⟩ : ByteArray), .string (⟨#[]⟩ : ByteArray)]) ?_ 0 _ rfl; refine blk_far ?_ NB301_308.out _; exact bb_ BK301) Try.underlying41 rfl (by kernel_rfl)) rfl ?_
       exact ⟨by first | rfl | (simp [errW_none, errW_some] <;> rfl) | (simp [*, errW_none, errW_some] <;> rfl), by repeat (first | (with_reducible first | exact HI0.out | apply IsS101.alloc | apply IsS101.drewN | apply IsS101.drew | apply IsS101.set_1 | apply IsS101.set_2 | refine IsS101.far ?_ NB0_301.out _ | refine IsS101.far ?_ NB0_308.out _) | exact HI0.out), by repeat (first | (with_reducible first | exact HB.out | apply below_alloc | apply pw_below_drewN | apply below_drew1 | refine below_set ?_ (IsS101.ge HI0.out) | refine below_set ?_ GE301.out | refine below_set ?_ GE308.out) | exact HB.out), by repeat (first | (with_reducible first | exact HK.out | apply KeepBut.set_ | apply keep_drewN | apply keep_drew | apply keep_alloc | refine keep_far ?_ GW301.out _ | refine keep_far ?_ GW308.out _) | exact HK.out)⟩
      ·rw [if_neg c58] at H
       have c58b0 : (t318 == 3) = false := beq_eq_false_iff_ne.mpr c58
       have c58b1 : (t318 != 3) = true := bne_iff_ne.mpr c58
       simp only [Option.some.injEq, Prod.mk.injEq] at H
       obtain ⟨rfl, rfl, rfl, rfl, rfl, rfl⟩ := H
       go_wp2_with (first | ((with_reducible refine gate_callee (f := 65) rfl ?_); refine goesL_ (some 25) rfl rfl Try.func65 (by kernel_rfl) rfl #[.pointer (some ⟨g, 0, none⟩), .int .i64 40] rfl (by (try simp only [List.map_toArray, List.map_cons, List.map_nil]); first | done | rfl | (simp only [List.length_drop, List.length_take]; rfl)) ?_; (with_reducible refine (spec_l01Below.calls g s0_0 x1001_3 x1002_3 40 t318 t319 t320 w0 _ ?side1 ?side2 A26.out).mono ?_); (case side1 => exact ii_ HI0); (case side2 => exact hj_ HB); rintro e w65 ⟨rfl, hi, hb, hk⟩; refine ⟨_, rfl, ?_⟩; have n0_ := Aside0.mk (KeepBut.blk hk (g' := gb301) (o := .cells #[.int .i64 0, .string (⟨#[]⟩ : ByteArray), .string (⟨#[]⟩ : ByteArray), .string (⟨#[]⟩ : ByteArray)] 41 (0, 0)) (bb_ BK301) NB301_0.out (by simp)); have n1_ := Aside0.mk (KeepBut.blk hk (g' := gb308) (o := .cells #[.int .i64 (wrap64 (1 + t302)), .string t305, .string x309002_3, .string x309003_3] 41 (0, 0)) (bb_ BK308) NB308_0.out (by simp)); have n2_ := Aside0.mk (KeepBut.trans (kk_ HK) hk (.inl rfl)); have n3_ := Aside0.mk (hb); have n4_ := Aside0.mk (hi); clear BK301 BK308 HK HB HI0; have BK301 := n0_; have BK308 := n1_; have HK := n2_; have HB := n3_; have HI0 := n4_; clear n0_ n1_ n2_ n3_ n4_; (try clear hb); (try clear hb2); (try clear hk); (try clear hi); have hnb66 := NB308_301.out; have hnc66 := NB301_308.out; have hnb67 := NB308_0.out; have hnc67 := NB0_308.out; have hcz68_0 : w65.cell? ⟨gb308, 0, none⟩ = some (.int .i64 (wrap64 (1 + t302))) := (blk_cell BK308.out 0).trans rfl; have hcz68_1 : w65.cell? ⟨gb308, 1, none⟩ = some (.string t305) := (blk_cell BK308.out 1).trans rfl; have hcz68_2 : w65.cell? ⟨gb308, 2, none⟩ = some (.string x309002_3) := (blk_cell BK308.out 2).trans rfl; have hcz68_3 : w65.cell? ⟨gb308, 3, none⟩ = some (.string x309003_3) := (blk_cell BK308.out 3).trans rfl; have hfz68_0 := blk_frozen BK308.out 0; have hfz68_1 := blk_frozen BK308.out 1; have hfz68_2 := blk_frozen BK308.out 2; have hfz68_3 := blk_frozen BK308.out 3; have hnb69 := NB301_0.out; have hnc69 := NB0_301.out; have hcz70_0 : w65.cell? ⟨gb301, 0, none⟩ = some (.int .i64 0) := (blk_cell BK301.out 0).trans rfl; have hcz70_1 : w65.cell? ⟨gb301, 1, none⟩ = some (.string (⟨#[]⟩ : ByteArray)) := (blk_cell BK301.out 1).trans rfl; have hcz70_2 : w65.cell? ⟨gb301, 2, none⟩ = some (.string (⟨#[]⟩ : ByteArray)) := (blk_cell BK301.out 2).trans rfl; have hcz70_3 : w65.cell? ⟨gb301, 3, none⟩ = some (.string (⟨#[]⟩ : ByteArray)) := (blk_cell BK301.out 3).trans rfl; have hfz70_0 := blk_frozen BK301.out 0; have hfz70_1 := blk_frozen BK301.out 1; have hfz70_2 := blk_frozen BK301.out 2; have hfz70_3 := blk_frozen BK301.out 3))
       refine bodyPost_ret (results_cell_row rfl _ _ gb301 41 #[.int .i64 (wrap64 (1 + t302)), .string t305, .string x309002_3, .string x309003_3] (0, 0) _ rfl (by (with_reducible repeat (first | refine blk_drewN ?_ _ | refine blk_drew ?_ | refine blk_alloc ?_ _)); refine blk_put (cs := #[.int .i64 (wrap64 (1 + t302)), .string t305, .string x309002_3, .string (⟨#[]⟩ : ByteArray)]) ?_ 3 _ rfl; refine blk_put (cs := #[.int .i64 (wrap64 (1 + t302)), .string t305, .string (⟨#[]⟩ : ByteArray), .string (⟨#[]⟩ : ByteArray)]) ?_ 2 _ rfl; refine blk_put (cs := #[.int .i64 (wrap64 (1 + t302)), .string (⟨#[]⟩ : ByteArray), .string (⟨#[]⟩ : ByteArray), .string (⟨#[]⟩ : ByteArray)]) ?_ 1 _ rfl; refine blk_put (cs := #[.int .i64 0, .string (⟨#[]⟩ : ByteArray), .string (⟨#[]⟩ : ByteArray), .string (⟨#[]⟩ : ByteArray)]) ?_ 0 _ rfl; exact bb_ BK301) Try.underlying41 rfl (by kernel_rfl)) rfl ?_
       exact ⟨by first | rfl | (simp [errW_none, errW_some] <;> rfl) | (simp [*, errW_none, errW_some] <;> rfl), by repeat (first | (with_reducible first | exact HI0.out | apply IsS101.alloc | apply IsS101.drewN | apply IsS101.drew | apply IsS101.set_1 | apply IsS101.set_2 | refine IsS101.far ?_ NB0_301.out _ | refine IsS101.far ?_ NB0_308.out _) | exact HI0.out), by repeat (first | (with_reducible first | exact HB.out | apply below_alloc | apply pw_below_drewN | apply below_drew1 | refine below_set ?_ (IsS101.ge HI0.out) | refine below_set ?_ GE301.out | refine below_set ?_ GE308.out) | exact HB.out), by repeat (first | (with_reducible first | exact HK.out | apply KeepBut.set_ | apply keep_drewN | apply keep_drew | apply keep_alloc | refine keep_far ?_ GW301.out _ | refine keep_far ?_ GW308.out _) | exact HK.out)⟩

/-! ### spec_l01Once: function 81 -/
def spec_l01Once.f (s0_0 : List Int) (s0_1 : Int) (s0_2 : Int) (a1 : Int) : Option (Bool × Int × Int) := (spec_l01Below.f s0_0 s0_1 s0_2 a1).bind fun bt333 => (some ((bt333.1 == 0), bt333.2.1, bt333.2.2))
set_option maxHeartbeats 8000000 in
set_option maxRecDepth 100000 in
theorem spec_l01Once.calls (g : Nat) (s0_0 : List Int) (s0_1 : Int) (s0_2 : Int) (a1 : Int) (r1 : Bool) (r2 : Int) (r3 : Int) (w0 w : World) (hI : IsS101 w0 w g s0_0 s0_1 s0_2) (hB : Below w0.heap.size w0 w) (h : spec_l01Once.f s0_0 s0_1 s0_2 a1 = some (r1, r2, r3)) :
  Calls Try.prog 81 #[.pointer (some ⟨g, 0, none⟩), .int .i64 a1] w fun e w' => e = .returned (.bool r1) ∧ IsS101 w0 w' g s0_0 r2 r3 ∧ Below w0.heap.size w0 w' ∧ KeepBut w w' g none := by
 have HI0 := Aside0.mk hI
 have HK := Aside0.mk (KeepBut.refl w g none)
 have HL := Aside0.mk hB.size
 clear hI
 have HW0 := Aside0.mk hB.size
 have HB := Aside0.mk hB
 clear hB
 have H : ((spec_l01Below.f s0_0 s0_1 s0_2 a1).bind fun bt333 => (some ((bt333.1 == 0), bt333.2.1, bt333.2.2))) = some (r1, r2, r3) := h
 clear h
 replace H := Option.bind_eq_some_iff.mp H
 obtain ⟨⟨t333, t334, t335⟩, A30, H⟩ := H
 replace H : (some ((t333 == 0), t334, t335)) = some (r1, r2, r3) := H
 have A3 := Aside0.mk A30
 clear A30
 simp only [Option.some.injEq, Prod.mk.injEq] at H
 obtain ⟨rfl, rfl, rfl⟩ := H
 go_enter Try.func81, Try.ntmps81
 go_wp2_with (first | ((with_reducible refine gate_callee (f := 65) rfl ?_); refine goesL_ (some 7) rfl rfl Try.func65 (by kernel_rfl) rfl #[.pointer (some ⟨g, 0, none⟩), .int .i64 a1] rfl (by (try simp only [List.map_toArray, List.map_cons, List.map_nil]); first | done | rfl | (simp only [List.length_drop, List.length_take]; rfl)) ?_; (with_reducible refine (spec_l01Below.calls g s0_0 s0_1 s0_2 a1 t333 t334 t335 w0 _ ?side1 ?side2 A3.out).mono ?_); (case side1 => exact ii_ HI0); (case side2 => exact hj_ HB); rintro e w4 ⟨rfl, hi, hb, hk⟩; refine ⟨_, rfl, ?_⟩; have n0_ := Aside0.mk (KeepBut.trans (kk_ HK) hk (.inl rfl)); have n1_ := Aside0.mk (hb); have n2_ := Aside0.mk (hi); clear HK HB HI0; have HK := n0_; have HB := n1_; have HI0 := n2_; clear n0_ n1_ n2_; (try clear hb); (try clear hb2); (try clear hk); (try clear hi)))
 go_ret
 exact ⟨by first | rfl | (simp [errW_none, errW_some] <;> rfl) | (simp [*, errW_none, errW_some] <;> rfl), by repeat (first | (with_reducible first | exact HI0.out | apply IsS101.alloc | apply IsS101.drewN | apply IsS101.drew | apply IsS101.set_1 | apply IsS101.set_2) | exact HI0.out), by repeat (first | (with_reducible first | exact HB.out | apply below_alloc | apply pw_below_drewN | apply below_drew1 | refine below_set ?_ (IsS101.ge HI0.out)) | exact HB.out), by repeat (first | (with_reducible first | exact HK.out | apply KeepBut.set_ | apply keep_drewN | apply keep_drew | apply keep_alloc) | exact HK.out)⟩

/-! ### spec_l03Acts: function 70 -/
def spec_l03Acts.l0 : Nat → List (S41) → Int → List Int → Int → Int → List (S67) → Option ((List (S41)) × Int × Int)
 | 0, _, _, _, _, _, _ => none
 | k + 1, x5, x6, x1000, x1001, x1002, x337000 => (spec_l01Below.f x1000 x1001 x1002 9).bind fun bt340 => (if x6 < bt340.1 then ((spec_l03Act.f k x1000 bt340.2.1 bt340.2.2).bind fun bt343 => ((spec_DoAct.f x337000 bt343.1 bt343.2.1 bt343.2.2.1 bt343.2.2.2.1).bind fun bt350 => (if bt350.2 = true then (if x5.length < 2513169434916 then (spec_l03Acts.l0 k (x5 ++ [(⟨bt343.1, bt343.2.1, bt343.2.2.1, bt343.2.2.2.1⟩ : S41)]) (wrap64 (x6 + 1)) x1000 bt343.2.2.2.2.1 bt343.2.2.2.2.2 bt350.1) else (none)) else ((spec_l01Once.f x1000 bt343.2.2.2.2.1 bt343.2.2.2.2.2 20).bind fun bt358 => (if bt358.1 = true then (if x5.length < 2513169434916 then (spec_l03Acts.l0 k (x5 ++ [(⟨bt343.1, bt343.2.1, bt343.2.2.1, bt343.2.2.2.1⟩ : S41)]) (wrap64 (x6 + 1)) x1000 bt358.2.1 bt358.2.2 bt350.1) else (none)) else (spec_l03Acts.l0 k x5 (wrap64 (x6 + 1)) x1000 bt358.2.1 bt358.2.2 x337000)))))) else (some (x5, bt340.2.1, bt340.2.2)))
def spec_l03Acts.f (k : Nat) (s0_0 : List Int) (s0_1 : Int) (s0_2 : Int) (l1_0 : List (S67)) : Option ((List (S41)) × Int × Int) := spec_l03Acts.l0 k (([] : List (S41))) 0 s0_0 s0_1 s0_2 l1_0
theorem spec_l03Acts.mono_l : ∀ k, (∀ y0 y1 y2 y3 y4 y5, LeO (spec_l03Acts.l0 k y0 y1 y2 y3 y4 y5) (spec_l03Acts.l0 (k + 1) y0 y1 y2 y3 y4 y5))
 | 0 => fun _ _ _ _ _ _ r h => by simp [spec_l03Acts.l0] at h
 | k + 1 => by
  have ih0 := spec_l03Acts.mono_l k
  ·intro y0 y1 y2 y3 y4 y5
   unfold spec_l03Acts.l0
   repeat' first
   | (with_reducible exact ih0 _ _ _ _ _ _)
   | (with_reducible exact spec_l03Act.mono _ _ _ _)
   | (with_reducible exact LeO.refl _)
   | (with_reducible exact LeO.none _)
   | (with_reducible refine LeO.ite ?_ ?_)
   | (with_reducible refine LeO.bind ?_ (fun _ => ?_))
   | exact ih0 _ _ _ _ _ _
   | exact spec_l03Act.mono _ _ _ _
   | exact LeO.none _
   | refine LeO.ite ?_ ?_
   | refine LeO.bind ?_ (fun _ => ?_)
theorem spec_l03Acts.mono : ∀ a0 a1 a2 a3 k, LeO (spec_l03Acts.f k a0 a1 a2 a3) (spec_l03Acts.f (k + 1) a0 a1 a2 a3) := by
 intro a0 a1 a2 a3 k
 have ih0 := spec_l03Acts.mono_l k
 unfold spec_l03Acts.f
 repeat' first
   | (with_reducible exact ih0 _ _ _ _ _ _)
   | (with_reducible exact spec_l03Act.mono _ _ _ _)
   | (with_reducible exact LeO.refl _)
   | (with_reducible exact LeO.none _)
   | (with_reducible refine LeO.ite ?_ ?_)
   | (with_reducible refine LeO.bind ?_ (fun _ => ?_))
   | exact ih0 _ _ _ _ _ _
   | exact spec_l03Act.mono _ _ _ _
   | exact LeO.none _
   | refine LeO.ite ?_ ?_
   | refine LeO.bind ?_ (fun _ => ?_)
/-- What the drawing of acts keeps: the generator's state, the disk's box and row, the acts so far. -/
def daS_ (w0 w : World) (g : Nat) (s0 : List Int) (gb : Nat) (P : Nat → Prop) (x1 x2 : Int) (xs : List S67) (u vL : Value) (L : List S41) (W : World) : Prop := (IsS101 w0 W g s0 x1 x2 ∧ KeepBut w W g none ∧ Below w0.heap.size w0 W) ∧ W.heap[gb]? = some (.cells #[u] 29 (0, 0)) ∧ Kd.V k67 67 W w.heap.size (fun k => (P k ∨ w.heap.size ≤ k) ∧ some k ≠ vL.ownBlock ∧ k ≠ gb ∧ k ≠ g) u xs ∧ Kd.R k41 41 W w.heap.size (fun k => w.heap.size ≤ k) vL L
section
variable {w0 w : World} {g : Nat} {s0 : List Int} {gb : Nat} {P : Nat → Prop} {x1 x2 y1 y2 : Int} {xs ys : List S67} {u vL : Value} {L : List S41} {W W' : World}
theorem daS_below (h : daS_ w0 w g s0 gb P x1 x2 xs u vL L W) (hb : Below W.heap.size W W') : daS_ w0 w g s0 gb P x1 x2 xs u vL L W' :=
  ⟨⟨IsS101.below h.1.1 hb, KeepBut.trans h.1.2.1 (KeepBut.of_below hb g none) (.inl rfl), below_step h.1.2.2 hb⟩, blk_below h.2.1 hb, Kd.V_below h.2.2.1 hb, Kd.R_below h.2.2.2 hb⟩
theorem daS_keep (h : daS_ w0 w g s0 gb P x1 x2 xs u vL L W) (hi : IsS101 w0 W' g s0 y1 y2) (hb : Below w0.heap.size w0 W') (hk : KeepBut W W' g none) (hg : g ≠ gb) : daS_ w0 w g s0 gb P y1 y2 xs u vL L W' :=
  ⟨⟨hi, KeepBut.trans h.1.2.1 hk (.inl rfl), hb⟩, KeepBut.blk hk h.2.1 (Ne.symm hg) (by simp), Kd.V_keep h.2.2.1 hk (fun _ hk => hk.2.2.2), Kd.R_mono (Kd.R_keep (IsS101.apart h.1.1 h.2.2.2 (by decide)) hk (fun _ h => h.2)) (fun _ h => h.1)⟩
theorem daS_put {N : Nat} {v' : Value} (h : daS_ w0 w g s0 gb P x1 x2 xs u vL L W) (hv : Kd.R k67 67 W N (fun _ => True) v' ys) (hN : w.heap.size ≤ N) (hg : w.heap.size ≤ gb ∧ g ≠ gb ∧ w0.heap.size ≤ gb) : daS_ w0 w g s0 gb P x1 x2 ys v' vL L (W.setCell ⟨gb, 0, none⟩ v') := by
  have h1 := IsS101.apart h.1.1 (Kd.R_types (Kd.R_apart' hv (Kd.R_typed h.2.2.2) (by decide)) h.2.1 (by decide)) (by decide)
  refine ⟨⟨IsS101.far h.1.1 hg.2.1 _, keep_far h.1.2.1 hg.1 _, below_set h.1.2.2 hg.2.2⟩, blk_put h.2.1 0 _ rfl, Kd.V_mono (Kd.R_V (Kd.R_bound (Kd.R_set h1 h.2.1 (by decide) 0 v'))) (fun k hk => ?_), Kd.R_set h.2.2.2 h.2.1 (by decide) 0 _⟩
  have h2 := hk.2.1
  exact ⟨.inr (by omega), hk.1.1.1.2, hk.1.1.2, hk.1.2⟩
theorem daS_app {v1 : Value} {L1 : List S41} (h : daS_ w0 w g s0 gb P x1 x2 xs u vL L W) (hw : w0.heap.size ≤ w.heap.size) (ho : Kd.R k41 41 W' w.heap.size (fun k => w.heap.size ≤ k) v1 L1) (hb : Below w.heap.size W W') (hg : W.grownBy W' vL.ownBlock) (hat : v1.ownBlock = vL.ownBlock ∨ ∃ b, v1.ownBlock = some b ∧ W.heap.size ≤ b) : daS_ w0 w g s0 gb P x1 x2 xs u v1 L1 W' :=
  ⟨⟨IsS101.grown h.1.1 hg (IsS101.own_ne h.1.1 h.2.2.2 (by decide)), KeepBut.trans h.1.2.1 (KeepBut.of_grown hg g) (Kd.R_base2 h.2.2.2), below_weaken h.1.2.2 hw hb⟩, blk_grown h.2.1 hg (Kd.R_ne h.2.2.2 h.2.1 (by decide)), Kd.V_mono (Kd.V_afterv (ok := fun k => (P k ∨ w.heap.size ≤ k) ∧ k ≠ gb ∧ k ≠ g) (Kd.V_mono h.2.2.1 (fun k hk => ⟨⟨hk.1, hk.2.2⟩, hk.2.1⟩)) hg hat) (fun k hk => ⟨hk.1.1, hk.2, hk.1.2⟩), ho⟩
end
set_option maxHeartbeats 8000000 in
set_option maxRecDepth 100000 in
theorem spec_l03Acts.calls (k : Nat) (g : Nat) (s0_0 : List Int) (s0_1 : Int) (s0_2 : Int) (P1_0_ : Nat → Prop) (A1_0 : Option Addr) (c1_0 : Nat) (l1_0 : List (S67)) (r1 : List (S41)) (r2 : Int) (r3 : Int) (w0 w : World) (hI : IsS101 w0 w g s0_0 s0_1 s0_2) (hB : Below w0.heap.size w0 w) (hs1_0 : Kd.V k67 67 w w.heap.size (fun k_ => P1_0_ k_ ∧ k_ ≠ g) (.slice A1_0 l1_0.length c1_0) l1_0) (h : spec_l03Acts.f k s0_0 s0_1 s0_2 l1_0 = some (r1, r2, r3)) :
  Calls Try.prog 70 #[.pointer (some ⟨g, 0, none⟩), .agg #[.slice A1_0 l1_0.length c1_0]] w fun e w' => ∃ v0_ : Value, e = .returned (v0_) ∧ Kd.R k41 41 w' w.heap.size (fun k_ => (w.heap.size ≤ k_)) v0_ r1 ∧ IsS101 w0 w' g s0_0 r2 r3 ∧ Below w0.heap.size w0 w' ∧ KeepBut w w' g none := by
  have hu29 := Try.underlying29
  have hu41 := Try.underlying41
  have HI := Aside0.mk hI; have HB := Aside0.mk hB; have HV := Aside0.mk hs1_0; have H0 := Aside0.mk (show spec_l03Acts.l0 k [] 0 s0_0 s0_1 s0_2 l1_0 = some (r1, r2, r3) from h)
  have HW0 := Aside0.mk hB.size
  clear hI hB hs1_0 h
  go_enter Try.func70, Try.ntmps70
  go_wp2_with (first | ((with_reducible refine gate_dst (N := 3) rfl ?_); refine box_event ?hg (N := 3) ?hd (cs := #[.slice A1_0 l1_0.length c1_0]) (t := 29) ?hr ?_; (case hd => rfl); (case hg => rfl); (case hr => first | (go_simp; done) | (go_simp; rfl)); intro gb hg w3 hbox hb3; have HV3 := Aside0.mk (Kd.V_below (Kd.V_elderB HV.out gb (Nat.le_of_eq hg.symm)) hb3); have HI3 := Aside0.mk (IsS101.below HI.out hb3); have HB3 := Aside0.mk (below_step HB.out hb3); have HL3 := Aside0.mk hb3; have HX3 := Aside0.mk hbox; have HG := Aside0.mk (show w.heap.size ≤ gb ∧ g ≠ gb ∧ w0.heap.size ≤ gb from ⟨Nat.le_of_eq hg.symm, (by rw [hg]; exact Nat.ne_of_lt (IsS101.lt HI.out)), (by rw [hg]; exact HW0.out)⟩); clear hg hbox hb3) | ((with_reducible refine gate_dst (N := 10) rfl ?_); refine Kd.R_lit k41 _ 41 ?hg (N := 10) ?hd (xs := ([] : List (S41))) (inner := []) (ok := fun _ => True) (okp := fun _ => True) ?hr ?hp (fun _ hk => hk) trivial (Below.refl _ _) (Nat.le_refl _) (by simp) ?_; (case hd => rfl); (case hg => rfl); (case hr => first | (go_simp; done) | (go_simp; rfl)); (case hp => exact (Reps.none _ _)); intro v4 w4 ho hb hg_ hnew_; clear hg_ hnew_; have HS0 := Aside0.mk (show daS_ w0 w g s0_0 gb P1_0_ s0_1 s0_2 l1_0 (.slice A1_0 l1_0.length c1_0) v4 [] w4 from ⟨⟨IsS101.below HI3.out hb, KeepBut.of_below (HL3.out.trans (hb.mono HL3.out.size)) g none, below_step HB3.out hb⟩, blk_below HX3.out hb, Kd.V_mono (Kd.V_elder' HV3.out (Kd.R_base ho) hb) (fun k hk => ⟨.inl hk.1.1.1, hk.2, hk.1.2, hk.1.1.2⟩), Kd.R_lower (Kd.R_mono (Kd.R_bound ho) (fun k hk => Nat.le_trans HL3.out.size hk.2.1)) HL3.out.size⟩); clear ho hb))
  go_loopg [5, 6] k (fun kq v5 v6 w' => ∃ (L : List S41) (x6 x1 x2 : Int) (xs : List S67) (A : Option Addr) (c : Nat), v6 = .int .i64 x6 ∧ Aside0 (spec_l03Acts.l0 kq L x6 s0_0 x1 x2 xs = some (r1, r2, r3)) ∧ Aside0 (daS_ w0 w g s0_0 gb P1_0_ x1 x2 xs (.slice A xs.length c) v5 L w'))
  case atStart => exact ⟨[], 0, s0_1, s0_2, l1_0, A1_0, c1_0, rfl, H0, HS0⟩
  case round =>
    clear H0 HS0 HI HB HV HV3 HI3 HB3 HL3 HX3
    obtain ⟨L, x6, x1, x2, xs, A, c, rfl, HA, HS⟩ := hrel
    cases gk with
    | zero => exact absurd HA.out (by simp [spec_l03Acts.l0])
    | succ k1 =>
      have H := HA.out
      clear HA
      simp only [spec_l03Acts.l0] at H
      obtain ⟨⟨t, i1, h1⟩, e1, H⟩ := Option.bind_eq_some_iff.mp H
      have E1 := Aside0.mk e1
      clear e1
      simp only [] at H
      by_cases c7 : x6 < t
      · rw [if_pos c7] at H
        obtain ⟨⟨ki, an, at_, ao, i2, h2⟩, e2, H⟩ := Option.bind_eq_some_iff.mp H
        simp only [] at H
        obtain ⟨⟨xs2, ok⟩, e3, H⟩ := Option.bind_eq_some_iff.mp H
        simp only [] at H
        have E2 := Aside0.mk e2
        have E3 := Aside0.mk e3
        have c7b0 : decide (x6 < t) = true := decide_eq_true c7
        replace H := Aside0.mk H
        clear e2 e3 c7
        go_wp2_with (first | (go_at_call 65; (with_reducible refine (spec_l01Below.calls g s0_0 x1 x2 9 t i1 h1 w0 _ ?s1 ?s2 E1.out).mono ?_); (case s1 => exact HS.out.1.1); (case s2 => exact HS.out.1.2.2); rintro e_ w5 ⟨rfl, hi, hb, hk⟩; have HS1 := Aside0.mk (daS_keep HS.out hi hb hk HG.out.2.1); clear hi hb hk) | (go_at_call 80; (with_reducible refine (spec_l03Act.calls k1 g s0_0 i1 h1 ki an at_ ao i2 h2 w0 _ ?s1 ?s2 E2.out).mono ?_); (case s1 => exact HS1.out.1.1); (case s2 => exact HS1.out.1.2.2); rintro e_ w6 ⟨rfl, hi, hb, hk⟩; have HS2 := Aside0.mk (daS_keep HS1.out hi hb hk HG.out.2.1); clear hi hb hk) | ((with_reducible refine gate_dst (N := 20) rfl ?_); refine dk_stop ?_))
        obtain ⟨W7, hW7⟩ : ∃ W7, w6.alloc (.cells #[.int .i64 ki, .string an, .string at_, .string ao] 41) = W7 := ⟨_, rfl⟩
        obtain ⟨b7, hb7⟩ : ∃ b7, w6.heap.size = b7 := ⟨_, rfl⟩
        have H7 := Aside0.mk (show W7.heap[b7]? = some (.cells #[.int .i64 ki, .string an, .string at_, .string ao] 41 (0, 0)) by rw [← hW7, ← hb7]; exact blk_new _ _)
        have HS3 := Aside0.mk (show daS_ w0 w g s0_0 gb P1_0_ i2 h2 xs (.slice A xs.length c) u5 L W7 by rw [← hW7]; exact daS_below HS2.out (below_alloc (Below.refl _ _) _))
        have hcz3 := (blk_cell HS3.out.2.1 0).trans rfl
        have hcz7_0 := (blk_cell H7.out 0).trans rfl
        have hcz7_1 := (blk_cell H7.out 1).trans rfl
        have hcz7_2 := (blk_cell H7.out 2).trans rfl
        have hcz7_3 := (blk_cell H7.out 3).trans rfl
        have HN := Aside0.mk (show w.heap.size ≤ W7.heap.size from HS3.out.1.2.1.1)
        rw [hW7, hb7]
        clear hW7 hb7 HS HS1 HS2
        refine dk_go ?_
        go_upto_region 7 with (first | (go_at_call 22; (with_reducible refine (spec_DoAct.calls A c xs ki an at_ ao xs2 ok _ ?s1 ?s2 E3.out).mono ?_); (case s1 => exact (Kd.V_reads' HS3.out.2.2.1).2.2); (case s2 => exact (Kd.V_reads' HS3.out.2.2.1).2.1); rintro e_ w8 ⟨v8, rfl, o8, hb⟩; obtain ⟨A8, c8, rfl⟩ := Kd.R_slice o8; have HO8 := Aside0.mk o8; have HS8 := Aside0.mk (daS_below HS3.out hb); have H78 := Aside0.mk (blk_below H7.out hb); clear o8 hb hcz3 hcz7_0 hcz7_1 hcz7_2 hcz7_3))
        obtain ⟨W9, hW9⟩ : ∃ W9, w8.alloc (.cells #[.slice A8 xs2.length c8] 29) = W9 := ⟨_, rfl⟩
        obtain ⟨b9, hb9⟩ : ∃ b9, w8.heap.size = b9 := ⟨_, rfl⟩
        have HB9 := Aside0.mk (show W9.heap[b9]? = some (.cells #[.slice A8 xs2.length c8] 29 (0, 0)) by rw [← hW9, ← hb9]; exact blk_new _ _)
        have HS9 := Aside0.mk (show daS_ w0 w g s0_0 gb P1_0_ i2 h2 xs (.slice A xs.length c) u5 L W9 by rw [← hW9]; exact daS_below HS8.out (below_alloc (Below.refl _ _) _))
        have H79 := Aside0.mk (show W9.heap[b7]? = some (.cells #[.int .i64 ki, .string an, .string at_, .string ao] 41 (0, 0)) by rw [← hW9]; exact blk_alloc H78.out _)
        have HO9 := Aside0.mk (show Kd.R k67 67 W9 W7.heap.size (fun _ => True) (.slice A8 xs2.length c8) xs2 by rw [← hW9]; exact Kd.R_alloc HO8.out _)
        rw [hW9, hb9]
        clear hW9 hb9 HS3 H7 HO8 HS8 H78
        cases ok with
        | true =>
          have hcz7_0 := (blk_cell H79.out 0).trans rfl
          have hcz7_1 := (blk_cell H79.out 1).trans rfl
          have hcz7_2 := (blk_cell H79.out 2).trans rfl
          have hcz7_3 := (blk_cell H79.out 3).trans rfl
          have G := H.out
          clear H
          rw [if_pos rfl] at G
          by_cases cl : L.length < 2513169434916
          · rw [if_pos cl] at G
            have HM := Aside0.mk cl
            have H := Aside0.mk G
            clear cl G
            go_wp2_with (first | ((with_reducible refine gate_builtin (b := .append) (xs := #[.tmp 30, .tmp 32]) rfl ?_); at_builtin; refine Kd.R_append k41 w.heap.size rfl (.tmp 30) (.tmp 32) 49 41 (.agg #[(.int .i64 0), (.string ⟨#[]⟩), (.string ⟨#[]⟩), (.string ⟨#[]⟩)]) 56 rfl Try.underlying49 info41 rfl (by decide) (by omega) u5 L (⟨ki, an, at_, ao⟩ : S41) [.int .i64 ki, .string an, .string at_, .string ao] (fun k => w.heap.size ≤ k) (fun _ => False) rfl (by first | (go_simp; done) | (go_simp; rfl)) (k41_mkM _ _ _ (⟨ki, an, at_, ao⟩ : S41)) (fun _ hk => hk.elim) ?aF HS9.out.2.2.2 (Below.refl _ _) ?aS ?aL ?_; (case aF => exact (fun k hk => Nat.le_trans HS9.out.1.2.1.1 hk)); (case aS => exact HS9.out.1.2.1.1); (case aL => have := HM.out; omega); intro v11 w11 ho hb hg hat; have HS11 := Aside0.mk (daS_app HS9.out HW0.out ho hb hg hat); have H9 := Aside0.mk (blk_grown HB9.out hg (Kd.R_ne HS9.out.2.2.2 HB9.out (by decide))); have HO11 := Aside0.mk (Kd.R_over' HO9.out (Kd.R_typed HS9.out.2.2.2) (by decide) hg); clear ho hb hg hat hcz7_0 hcz7_1 hcz7_2 hcz7_3; have hd1 := (blk_cell H9.out 0).trans rfl; have hd2 := (blk_cell HS11.out.2.1 0).trans rfl; have hd3 := blk_frozen HS11.out.2.1 0))
            go_roundg k1
            case measure => omega
            case rel => exact ⟨_, wrap64 (x6 + 1), i2, h2, xs2, A8, c8, rfl, ⟨H.out⟩, ⟨daS_put HS11.out HO11.out HN.out HG.out⟩⟩
          · rw [if_neg cl] at G; cases G
        | false =>
          have G := H.out
          clear H
          rw [if_neg (by decide)] at G
          obtain ⟨⟨o, i3, h3⟩, e4, G⟩ := Option.bind_eq_some_iff.mp G
          simp only [] at G
          have E4 := Aside0.mk e4
          have H := Aside0.mk G
          clear e4 G
          cases o with
          | true =>
            have G := H.out
            clear H
            rw [if_pos rfl] at G
            by_cases cl : L.length < 2513169434916
            · rw [if_pos cl] at G
              have HM := Aside0.mk cl
              have H := Aside0.mk G
              clear cl G
              go_wp2_with (first | (go_at_call 81; (with_reducible refine (spec_l01Once.calls g s0_0 i2 h2 20 true i3 h3 w0 _ ?s1 ?s2 E4.out).mono ?_); (case s1 => exact HS9.out.1.1); (case s2 => exact HS9.out.1.2.2); rintro e_ w10 ⟨rfl, hi, hb, hk⟩; have HS10 := Aside0.mk (daS_keep HS9.out hi hb hk HG.out.2.1); have H710 := Aside0.mk (KeepBut.blk hk H79.out (Ne.symm (IsS101.ne_blk HS9.out.1.1 H79.out (by decide))) (by simp)); have HB10 := Aside0.mk (KeepBut.blk hk HB9.out (Ne.symm (IsS101.ne_blk HS9.out.1.1 HB9.out (by decide))) (by simp)); have HO10 := Aside0.mk (Kd.R_mono (Kd.R_keep (IsS101.apart HS9.out.1.1 HO9.out (by decide)) hk (fun _ h => h.2)) (fun _ _ => trivial)); have hcz7_0 := (blk_cell H710.out 0).trans rfl; have hcz7_1 := (blk_cell H710.out 1).trans rfl; have hcz7_2 := (blk_cell H710.out 2).trans rfl; have hcz7_3 := (blk_cell H710.out 3).trans rfl; clear hi hb hk) | ((with_reducible refine gate_builtin (b := .append) (xs := #[.tmp 30, .tmp 32]) rfl ?_); at_builtin; refine Kd.R_append k41 w.heap.size rfl (.tmp 30) (.tmp 32) 49 41 (.agg #[(.int .i64 0), (.string ⟨#[]⟩), (.string ⟨#[]⟩), (.string ⟨#[]⟩)]) 56 rfl Try.underlying49 info41 rfl (by decide) (by omega) u5 L (⟨ki, an, at_, ao⟩ : S41) [.int .i64 ki, .string an, .string at_, .string ao] (fun k => w.heap.size ≤ k) (fun _ => False) rfl (by first | (go_simp; done) | (go_simp; rfl)) (k41_mkM _ _ _ (⟨ki, an, at_, ao⟩ : S41)) (fun _ hk => hk.elim) ?aF HS10.out.2.2.2 (Below.refl _ _) ?aS ?aL ?_; (case aF => exact (fun k hk => Nat.le_trans HS10.out.1.2.1.1 hk)); (case aS => exact HS10.out.1.2.1.1); (case aL => have := HM.out; omega); intro v11 w11 ho hb hg hat; have HS11 := Aside0.mk (daS_app HS10.out HW0.out ho hb hg hat); have H9 := Aside0.mk (blk_grown HB10.out hg (Kd.R_ne HS10.out.2.2.2 HB10.out (by decide))); have HO11 := Aside0.mk (Kd.R_over' HO10.out (Kd.R_typed HS10.out.2.2.2) (by decide) hg); clear ho hb hg hat hcz7_0 hcz7_1 hcz7_2 hcz7_3; have hd1 := (blk_cell H9.out 0).trans rfl; have hd2 := (blk_cell HS11.out.2.1 0).trans rfl; have hd3 := blk_frozen HS11.out.2.1 0))
              go_roundg k1
              case measure => omega
              case rel => exact ⟨_, wrap64 (x6 + 1), i3, h3, xs2, A8, c8, rfl, ⟨H.out⟩, ⟨daS_put HS11.out HO11.out HN.out HG.out⟩⟩
            · rw [if_neg cl] at G; cases G
          | false =>
            have G := H.out
            clear H
            rw [if_neg (by decide)] at G
            have H := Aside0.mk G
            clear G
            go_wp2_with (first | (go_at_call 81; (with_reducible refine (spec_l01Once.calls g s0_0 i2 h2 20 false i3 h3 w0 _ ?s1 ?s2 E4.out).mono ?_); (case s1 => exact HS9.out.1.1); (case s2 => exact HS9.out.1.2.2); rintro e_ w10 ⟨rfl, hi, hb, hk⟩; have HS10 := Aside0.mk (daS_keep HS9.out hi hb hk HG.out.2.1); clear hi hb hk))
            go_roundg k1
            case measure => omega
            case rel => exact ⟨L, wrap64 (x6 + 1), i3, h3, xs, A, c, rfl, ⟨H.out⟩, HS10⟩
      · rw [if_neg c7] at H
        have c7b0 : decide (x6 < t) = false := decide_eq_false c7
        have q := Option.some.inj H
        injection q with q1 q
        injection q with q2 q3
        subst q1 q2 q3
        clear H c7
        go_wp2_with (first | (go_at_call 65; (with_reducible refine (spec_l01Below.calls g s0_0 x1 x2 9 t i1 h1 w0 _ ?s1 ?s2 E1.out).mono ?_); (case s1 => exact HS.out.1.1); (case s2 => exact HS.out.1.2.2); rintro e_ w5 ⟨rfl, hi, hb, hk⟩; have HS1 := Aside0.mk (daS_keep HS.out hi hb hk HG.out.2.1); clear hi hb hk))
        go_ret
        exact ⟨_, rfl, HS1.out.2.2.2, HS1.out.1.1, HS1.out.1.2.2, HS1.out.1.2.1⟩
/-! ### spec_l01Place: function 71 -/
def spec_l01Place.f (s0_0 : List Int) (s0_1 : Int) (s0_2 : Int) (a1 : Int) : Option (Int × Int × Int) := (spec_l01Once.f s0_0 s0_1 s0_2 15).bind fun bt364 => (if bt364.1 = true then ((spec_l01PickInt.f s0_0 bt364.2.1 bt364.2.2 (([(-1), a1, wrap64 (a1 + 1), 9223372036854775807, (-9223372036854775808)] : List Int))).bind fun bt370 => (some (bt370.1, bt370.2.1, bt370.2.2))) else ((spec_l01Below.f s0_0 bt364.2.1 bt364.2.2 a1).bind fun bt373 => (some (bt373.1, bt373.2.1, bt373.2.2))))
set_option maxHeartbeats 8000000 in
set_option maxRecDepth 100000 in
theorem spec_l01Place.calls (g : Nat) (s0_0 : List Int) (s0_1 : Int) (s0_2 : Int) (a1 : Int) (r1 : Int) (r2 : Int) (r3 : Int) (w0 w : World) (hI : IsS101 w0 w g s0_0 s0_1 s0_2) (hB : Below w0.heap.size w0 w) (h : spec_l01Place.f s0_0 s0_1 s0_2 a1 = some (r1, r2, r3)) :
  Calls Try.prog 71 #[.pointer (some ⟨g, 0, none⟩), .int .i64 a1] w fun e w' => e = .returned (.int .i64 r1) ∧ IsS101 w0 w' g s0_0 r2 r3 ∧ Below w0.heap.size w0 w' ∧ KeepBut w w' g none := by
 have HI0 := Aside0.mk hI
 have HK := Aside0.mk (KeepBut.refl w g none)
 have HL := Aside0.mk hB.size
 clear hI
 have HW0 := Aside0.mk hB.size
 have HB := Aside0.mk hB
 clear hB
 have H : ((spec_l01Once.f s0_0 s0_1 s0_2 15).bind fun bt364 => (if bt364.1 = true then ((spec_l01PickInt.f s0_0 bt364.2.1 bt364.2.2 (([(-1), a1, wrap64 (a1 + 1), 9223372036854775807, (-9223372036854775808)] : List Int))).bind fun bt370 => (some (bt370.1, bt370.2.1, bt370.2.2))) else ((spec_l01Below.f s0_0 bt364.2.1 bt364.2.2 a1).bind fun bt373 => (some (bt373.1, bt373.2.1, bt373.2.2))))) = some (r1, r2, r3) := h
 clear h
 replace H := Option.bind_eq_some_iff.mp H
 obtain ⟨⟨t364, t365, t366⟩, A30, H⟩ := H
 replace H : (if t364 = true then ((spec_l01PickInt.f s0_0 t365 t366 (([(-1), a1, wrap64 (a1 + 1), 9223372036854775807, (-9223372036854775808)] : List Int))).bind fun bt370 => (some (bt370.1, bt370.2.1, bt370.2.2))) else ((spec_l01Below.f s0_0 t365 t366 a1).bind fun bt373 => (some (bt373.1, bt373.2.1, bt373.2.2)))) = some (r1, r2, r3) := H
 have A3 := Aside0.mk A30
 clear A30
 by_cases c4 : t364 = true
 ·subst c4
  have H1 : ((spec_l01PickInt.f s0_0 t365 t366 (([(-1), a1, wrap64 (a1 + 1), 9223372036854775807, (-9223372036854775808)] : List Int))).bind fun bt370 => (some (bt370.1, bt370.2.1, bt370.2.2))) = some (r1, r2, r3) := by rw [if_pos rfl] at H; exact H
  clear H
  have H := H1
  clear H1
  obtain ⟨y367, hy367⟩ : ∃ y_ : List Int, y_ = (([(-1), a1, wrap64 (a1 + 1), 9223372036854775807, (-9223372036854775808)] : List Int)) := ⟨_, rfl⟩
  replace H : ((spec_l01PickInt.f s0_0 t365 t366 y367).bind fun bt370 => (some (bt370.1, bt370.2.1, bt370.2.2))) = some (r1, r2, r3) := by first | (rw [hy367]; with_reducible exact H) | (have H2_ := (Option.bind_some _ _).symm.trans H; rw [hy367]; with_reducible exact H2_) | (have H2_ := (Option.bind_some _ _).symm.trans H; with_reducible exact H2_) | with_reducible exact H | (rw [hy367]; exact H) | exact H
  have Ny367 := Aside0.mk hy367
  clear hy367
  replace H := Option.bind_eq_some_iff.mp H
  obtain ⟨⟨t370, t371, t372⟩, A50, H⟩ := H
  replace H : (some (t370, t371, t372)) = some (r1, r2, r3) := H
  have A5 := Aside0.mk A50
  clear A50
  simp only [Option.some.injEq, Prod.mk.injEq] at H
  obtain ⟨rfl, rfl, rfl⟩ := H
  go_enter Try.func71, Try.ntmps71
  go_wp2_with (first | ((with_reducible refine gate_callee (f := 81) rfl ?_); refine goesL_ (some 6) rfl rfl Try.func81 (by kernel_rfl) rfl #[.pointer (some ⟨g, 0, none⟩), .int .i64 15] rfl (by (try simp only [List.map_toArray, List.map_cons, List.map_nil]); first | done | rfl | (simp only [List.length_drop, List.length_take]; rfl)) ?_; (with_reducible refine (spec_l01Once.calls g s0_0 s0_1 s0_2 15 true t365 t366 w0 _ ?side1 ?side2 A3.out).mono ?_); (case side1 => exact ii_ HI0); (case side2 => exact hj_ HB); rintro e w6 ⟨rfl, hi, hb, hk⟩; refine ⟨_, rfl, ?_⟩; have n0_ := Aside0.mk (KeepBut.trans (kk_ HK) hk (.inl rfl)); have n1_ := Aside0.mk (hb); have n2_ := Aside0.mk (hi); clear HK HB HI0; have HK := n0_; have HB := n1_; have HI0 := n2_; clear n0_ n1_ n2_; (try clear hb); (try clear hb2); (try clear hk); (try clear hi)) | ((with_reducible refine gate_dst (N := 11) rfl ?_); refine Kd.R_lit (Kd.int .i64) _ 3 ?hg (N := 11) ?hd (xs := ([(-1), a1, wrap64 (a1 + 1), 9223372036854775807, (-9223372036854775808)] : List Int)) (inner := [.int .i64 (-1), .int .i64 a1, .int .i64 (wrap64 (a1 + 1)), .int .i64 9223372036854775807, .int .i64 (-9223372036854775808)]) (ok := fun _ => True) (okp := fun _ => True) ?hr ?hp (fun _ hk => hk) trivial (Below.refl _ _) (Nat.le_refl _) (by simp) ?_; (case hd => rfl); (case hg => rfl); (case hr => first | (go_simp; done) | (go_simp; rfl)); (case hp => exact (Reps.one (show Kd.M (Kd.int .i64) _ _ _ (-1) [.int .i64 (-1)] from rfl) (Reps.one (show Kd.M (Kd.int .i64) _ _ _ a1 [.int .i64 a1] from rfl) (Reps.one (show Kd.M (Kd.int .i64) _ _ _ (wrap64 (a1 + 1)) [.int .i64 (wrap64 (a1 + 1))] from rfl) (Reps.one (show Kd.M (Kd.int .i64) _ _ _ 9223372036854775807 [.int .i64 9223372036854775807] from rfl) (Reps.one (show Kd.M (Kd.int .i64) _ _ _ (-9223372036854775808) [.int .i64 (-9223372036854775808)] from rfl) (Reps.none _ _))))))); intro v368 w7 ho8 hb hg_ hnew_; clear hg_ hnew_; (first | rw [← Ny367.out] at ho8 | (simp only [Int.reduceToNat] at ho8; rw [← Ny367.out] at ho8)); have n0_ := Aside0.mk (Kd.R_lower ho8 (keep_size (w := w) (g := g) (row := none) (kk_ HK))); have n1_ := Aside0.mk (IsS101.below (ii_ HI0) hb); have n2_ := Aside0.mk (KeepBut.trans (kk_ HK) (KeepBut.of_below hb g none) (.inl rfl)); have n3_ := Aside0.mk (below_step (hj_ HB) hb); clear HI0 HK HB; have HO369 := n0_; have HI0 := n1_; have HK := n2_; have HB := n3_; clear n0_ n1_ n2_ n3_ hb ho8; obtain ⟨Ao9, co9, eo9⟩ := Kd.R_slice HO369.out; subst eo9) | ((with_reducible refine gate_callee (f := 77) rfl ?_); refine goesL_ (some 12) rfl rfl Try.func77 (by kernel_rfl) rfl #[.pointer (some ⟨g, 0, none⟩), .slice Ao9 y367.length co9] rfl (by (try simp only [List.map_toArray, List.map_cons, List.map_nil]); first | done | rfl | (simp only [List.length_drop, List.length_take]; rfl)) ?_; (with_reducible refine (spec_l01PickInt.calls g s0_0 t365 t366 _ _ y367 t370 t371 t372 w0 _ ?side1 ?side2 ?side3 ?side4 ?side5 A5.out).mono ?_); (case side1 => exact ii_ HI0); (case side2 => exact hj_ HB); (case side3 => repeat (first | exact (Kd.R_reads' HO369.out).2.2 | (with_reducible refine Kd.C_alloc ?_ _) | (with_reducible refine Kd.C_drewN ?_ _) | (with_reducible refine Kd.C_drew ?_))); (case side4 => exact (Kd.R_reads' HO369.out).2.1); (case side5 => exact far_slice (IsS101.own_ne HI0.out HO369.out (by decide))); rintro e w10 ⟨rfl, hi, hb, hk⟩; refine ⟨_, rfl, ?_⟩; have n0_ := Aside0.mk (Kd.R_mono (Kd.R_keep (IsS101.apart (show IsS101 w0 _ g s0_0 t365 t366 from ii_ HI0) (rr_ HO369) (by decide)) hk (fun _ h => h.2)) (fun _ h => h.1)); have n1_ := Aside0.mk (KeepBut.trans (kk_ HK) hk (.inl rfl)); have n2_ := Aside0.mk (hb); have n3_ := Aside0.mk (hi); clear HO369 HK HB HI0; have HO369 := n0_; have HK := n1_; have HB := n2_; have HI0 := n3_; clear n0_ n1_ n2_ n3_; (try clear hb); (try clear hb2); (try clear hk); (try clear hi)))
  go_ret
  exact ⟨by first | rfl | (simp [errW_none, errW_some] <;> rfl) | (simp [*, errW_none, errW_some] <;> rfl), by repeat (first | (with_reducible first | exact HI0.out | apply IsS101.alloc | apply IsS101.drewN | apply IsS101.drew | apply IsS101.set_1 | apply IsS101.set_2) | exact HI0.out), by repeat (first | (with_reducible first | exact HB.out | apply below_alloc | apply pw_below_drewN | apply below_drew1 | refine below_set ?_ (IsS101.ge HI0.out)) | exact HB.out), by repeat (first | (with_reducible first | exact HK.out | apply KeepBut.set_ | apply keep_drewN | apply keep_drew | apply keep_alloc) | exact HK.out)⟩
 ·replace c4 := Bool.eq_false_iff.mpr c4
  subst c4
  have H1 : ((spec_l01Below.f s0_0 t365 t366 a1).bind fun bt373 => (some (bt373.1, bt373.2.1, bt373.2.2))) = some (r1, r2, r3) := by rw [if_neg (show ¬ (false = true) by decide)] at H; exact H
  clear H
  have H := H1
  clear H1
  replace H := Option.bind_eq_some_iff.mp H
  obtain ⟨⟨t373, t374, t375⟩, A110, H⟩ := H
  replace H : (some (t373, t374, t375)) = some (r1, r2, r3) := H
  have A11 := Aside0.mk A110
  clear A110
  simp only [Option.some.injEq, Prod.mk.injEq] at H
  obtain ⟨rfl, rfl, rfl⟩ := H
  go_enter Try.func71, Try.ntmps71
  go_wp2_with (first | ((with_reducible refine gate_callee (f := 81) rfl ?_); refine goesL_ (some 6) rfl rfl Try.func81 (by kernel_rfl) rfl #[.pointer (some ⟨g, 0, none⟩), .int .i64 15] rfl (by (try simp only [List.map_toArray, List.map_cons, List.map_nil]); first | done | rfl | (simp only [List.length_drop, List.length_take]; rfl)) ?_; (with_reducible refine (spec_l01Once.calls g s0_0 s0_1 s0_2 15 false t365 t366 w0 _ ?side1 ?side2 A3.out).mono ?_); (case side1 => exact ii_ HI0); (case side2 => exact hj_ HB); rintro e w12 ⟨rfl, hi, hb, hk⟩; refine ⟨_, rfl, ?_⟩; have n0_ := Aside0.mk (KeepBut.trans (kk_ HK) hk (.inl rfl)); have n1_ := Aside0.mk (hb); have n2_ := Aside0.mk (hi); clear HK HB HI0; have HK := n0_; have HB := n1_; have HI0 := n2_; clear n0_ n1_ n2_; (try clear hb); (try clear hb2); (try clear hk); (try clear hi)) | ((with_reducible refine gate_callee (f := 65) rfl ?_); refine goesL_ (some 15) rfl rfl Try.func65 (by kernel_rfl) rfl #[.pointer (some ⟨g, 0, none⟩), .int .i64 a1] rfl (by (try simp only [List.map_toArray, List.map_cons, List.map_nil]); first | done | rfl | (simp only [List.length_drop, List.length_take]; rfl)) ?_; (with_reducible refine (spec_l01Below.calls g s0_0 t365 t366 a1 t373 t374 t375 w0 _ ?side1 ?side2 A11.out).mono ?_); (case side1 => exact ii_ HI0); (case side2 => exact hj_ HB); rintro e w13 ⟨rfl, hi, hb, hk⟩; refine ⟨_, rfl, ?_⟩; have n0_ := Aside0.mk (KeepBut.trans (kk_ HK) hk (.inl rfl)); have n1_ := Aside0.mk (hb); have n2_ := Aside0.mk (hi); clear HK HB HI0; have HK := n0_; have HB := n1_; have HI0 := n2_; clear n0_ n1_ n2_; (try clear hb); (try clear hb2); (try clear hk); (try clear hi)))
  go_ret
  exact ⟨by first | rfl | (simp [errW_none, errW_some] <;> rfl) | (simp [*, errW_none, errW_some] <;> rfl), by repeat (first | (with_reducible first | exact HI0.out | apply IsS101.alloc | apply IsS101.drewN | apply IsS101.drew | apply IsS101.set_1 | apply IsS101.set_2) | exact HI0.out), by repeat (first | (with_reducible first | exact HB.out | apply below_alloc | apply pw_below_drewN | apply below_drew1 | refine below_set ?_ (IsS101.ge HI0.out)) | exact HB.out), by repeat (first | (with_reducible first | exact HK.out | apply KeepBut.set_ | apply keep_drewN | apply keep_drew | apply keep_alloc) | exact HK.out)⟩

/-! ### spec_l03Left: function 72 -/
def spec_l03Left.l0 : Nat → List Int → Int → List Int → Int → Int → Option (List Int × Int × Int)
 | 0, _, _, _, _, _ => none
 | k + 1, x3, x4, x1000, x1001, x1002 => (spec_l01Below.f x1000 x1001 x1002 6).bind fun bt379 => (if x4 < bt379.1 then ((spec_l01PickInt.f x1000 bt379.2.1 bt379.2.2 (([0, 1, 2, 3, 5, 9, 40, 200, (-1), 9223372036854775807] : List Int))).bind fun bt385 => (if x3.length < 17592186044416 then (spec_l03Left.l0 k (x3 ++ [bt385.1]) (wrap64 (x4 + 1)) x1000 bt385.2.1 bt385.2.2) else (none))) else (some (x3, bt379.2.1, bt379.2.2)))
def spec_l03Left.f (k : Nat) (s0_0 : List Int) (s0_1 : Int) (s0_2 : Int) : Option (List Int × Int × Int) := spec_l03Left.l0 k (([] : List Int)) 0 s0_0 s0_1 s0_2
theorem spec_l03Left.mono_l : ∀ k, (∀ y0 y1 y2 y3 y4, LeO (spec_l03Left.l0 k y0 y1 y2 y3 y4) (spec_l03Left.l0 (k + 1) y0 y1 y2 y3 y4))
 | 0 => fun _ _ _ _ _ r h => by simp [spec_l03Left.l0] at h
 | k + 1 => by
  have ih0 := spec_l03Left.mono_l k
  ·intro y0 y1 y2 y3 y4
   unfold spec_l03Left.l0
   repeat' first
   | (with_reducible exact ih0 _ _ _ _ _)
   | (with_reducible exact LeO.refl _)
   | (with_reducible exact LeO.none _)
   | (with_reducible refine LeO.ite ?_ ?_)
   | (with_reducible refine LeO.bind ?_ (fun _ => ?_))
   | exact ih0 _ _ _ _ _
   | exact LeO.none _
   | refine LeO.ite ?_ ?_
   | refine LeO.bind ?_ (fun _ => ?_)
theorem spec_l03Left.mono : ∀ a0 a1 a2 k, LeO (spec_l03Left.f k a0 a1 a2) (spec_l03Left.f (k + 1) a0 a1 a2) := by
 intro a0 a1 a2 k
 have ih0 := spec_l03Left.mono_l k
 unfold spec_l03Left.f
 repeat' first
   | (with_reducible exact ih0 _ _ _ _ _)
   | (with_reducible exact LeO.refl _)
   | (with_reducible exact LeO.none _)
   | (with_reducible refine LeO.ite ?_ ?_)
   | (with_reducible refine LeO.bind ?_ (fun _ => ?_))
   | exact ih0 _ _ _ _ _
   | exact LeO.none _
   | refine LeO.ite ?_ ?_
   | refine LeO.bind ?_ (fun _ => ?_)
set_option maxHeartbeats 8000000 in
set_option maxRecDepth 100000 in
theorem spec_l03Left.calls (k : Nat) (g : Nat) (s0_0 : List Int) (s0_1 : Int) (s0_2 : Int) (r1 : List Int) (r2 : Int) (r3 : Int) (w0 w : World) (hI : IsS101 w0 w g s0_0 s0_1 s0_2) (hB : Below w0.heap.size w0 w) (h : spec_l03Left.f k s0_0 s0_1 s0_2 = some (r1, r2, r3)) :
  Calls Try.prog 72 #[.pointer (some ⟨g, 0, none⟩)] w fun e w' => ∃ v0_ : Value, e = .returned (v0_) ∧ Kd.R (Kd.int .i64) 3 w' w.heap.size (fun _ => True) v0_ r1 ∧ IsS101 w0 w' g s0_0 r2 r3 ∧ Below w0.heap.size w0 w' ∧ KeepBut w w' g none := by
 have HI0 := Aside0.mk hI
 have HK := Aside0.mk (KeepBut.refl w g none)
 have HL := Aside0.mk hB.size
 clear hI
 have HW0 := Aside0.mk hB.size
 have HB := Aside0.mk hB
 clear hB
 have H : (spec_l03Left.l0 k (([] : List Int)) 0 s0_0 s0_1 s0_2) = some (r1, r2, r3) := h
 clear h
 obtain ⟨y376, hy376⟩ : ∃ y_ : List Int, y_ = (([] : List Int)) := ⟨_, rfl⟩
 replace H : (spec_l03Left.l0 k y376 0 s0_0 s0_1 s0_2) = some (r1, r2, r3) := by first | (rw [hy376]; with_reducible exact H) | (have H2_ := (Option.bind_some _ _).symm.trans H; rw [hy376]; with_reducible exact H2_) | (have H2_ := (Option.bind_some _ _).symm.trans H; with_reducible exact H2_) | with_reducible exact H | (rw [hy376]; exact H) | exact H
 have Ny376 := Aside0.mk hy376
 clear hy376
 have H' := Aside0.mk H
 clear H
 go_enter Try.func72, Try.ntmps72
 go_wp2_with (first | ((with_reducible refine gate_dst (N := 5) rfl ?_); refine Kd.R_lit (Kd.int .i64) _ 3 ?hg (N := 5) ?hd (xs := ([] : List Int)) (inner := []) (ok := fun _ => True) (okp := fun _ => True) ?hr ?hp (fun _ hk => hk) trivial (Below.refl _ _) (Nat.le_refl _) (by simp) ?_; (case hd => rfl); (case hg => rfl); (case hr => first | (go_simp; done) | (go_simp; rfl)); (case hp => exact (Reps.none _ _)); intro v377 w2 ho3 hb hg_ hnew_; clear hg_ hnew_; (first | rw [← Ny376.out] at ho3 | (simp only [Int.reduceToNat] at ho3; rw [← Ny376.out] at ho3)); have n0_ := Aside0.mk (Kd.R_lower ho3 (keep_size (w := w) (g := g) (row := none) (kk_ HK))); have n1_ := Aside0.mk (IsS101.below (ii_ HI0) hb); have n2_ := Aside0.mk (KeepBut.trans (kk_ HK) (KeepBut.of_below hb g none) (.inl rfl)); have n3_ := Aside0.mk (below_step (hj_ HB) hb); clear HI0 HK HB; have HO378 := n0_; have HI0 := n1_; have HK := n2_; have HB := n3_; clear n0_ n1_ n2_ n3_ hb ho3))
 go_loopg [3, 4] k (fun kq v3 v4 w' => ∃ (x3_1 : List Int) (x4_1 : Int) (x1001_1 : Int) (x1002_1 : Int), v4 = .int .i64 x4_1 ∧ Aside0 (spec_l03Left.l0 kq x3_1 x4_1 s0_0 x1001_1 x1002_1 = some (r1, r2, r3)) ∧ Aside0 (kq ≤ k) ∧ Aside0 (Kd.R (Kd.int .i64) 3 w' w.heap.size (fun _ => True) v3 x3_1) ∧ Aside0 (IsS101 w0 w' g s0_0 x1001_1 x1002_1) ∧ Aside0 (KeepBut w w' g none) ∧ Aside0 (Below w0.heap.size w0 w'))
 case atStart => exact ⟨(y376), (0), (s0_1), (s0_2), (by first | rfl | (simp; done) | (simp [*]; done)), H', ⟨Nat.le_refl _⟩, ⟨rr_ HO378⟩, ⟨ii_ HI0⟩, ⟨kk_ HK⟩, ⟨hj_ HB⟩⟩
 case round =>
  clear H'
  try clear p2
  obtain ⟨x3_1, x4_1, x1001_1, x1002_1, rfl, HA, HK1, HO_3, HI0, HK, HB⟩ := hrel
  cases gk with
  | zero => exact absurd HA.out (by simp [spec_l03Left.l0])
  | succ k1 =>
   have H := HA.out
   clear HA
   simp only [spec_l03Left.l0] at H
   replace H := Option.bind_eq_some_iff.mp H
   obtain ⟨⟨t379, t380, t381⟩, A40, H⟩ := H
   replace H : (if x4_1 < t379 then ((spec_l01PickInt.f s0_0 t380 t381 (([0, 1, 2, 3, 5, 9, 40, 200, (-1), 9223372036854775807] : List Int))).bind fun bt385 => (if x3_1.length < 17592186044416 then (spec_l03Left.l0 k1 (x3_1 ++ [bt385.1]) (wrap64 (x4_1 + 1)) s0_0 bt385.2.1 bt385.2.2) else (none))) else (some (x3_1, t380, t381))) = some (r1, r2, r3) := H
   have A4 := Aside0.mk A40
   clear A40
   by_cases c5 : x4_1 < t379
   ·rw [if_pos c5] at H
    have c5b0 : decide (x4_1 < t379) = true := decide_eq_true c5
    clear c5
    obtain ⟨y382, hy382⟩ : ∃ y_ : List Int, y_ = (([0, 1, 2, 3, 5, 9, 40, 200, (-1), 9223372036854775807] : List Int)) := ⟨_, rfl⟩
    replace H : ((spec_l01PickInt.f s0_0 t380 t381 y382).bind fun bt385 => (if x3_1.length < 17592186044416 then (spec_l03Left.l0 k1 (x3_1 ++ [bt385.1]) (wrap64 (x4_1 + 1)) s0_0 bt385.2.1 bt385.2.2) else (none))) = some (r1, r2, r3) := by first | (rw [hy382]; with_reducible exact H) | (have H2_ := (Option.bind_some _ _).symm.trans H; rw [hy382]; with_reducible exact H2_) | (have H2_ := (Option.bind_some _ _).symm.trans H; with_reducible exact H2_) | with_reducible exact H | (rw [hy382]; exact H) | exact H
    have Ny382 := Aside0.mk hy382
    clear hy382
    replace H := Option.bind_eq_some_iff.mp H
    obtain ⟨⟨t385, t386, t387⟩, A60, H⟩ := H
    replace H : (if x3_1.length < 17592186044416 then (spec_l03Left.l0 k1 (x3_1 ++ [t385]) (wrap64 (x4_1 + 1)) s0_0 t386 t387) else (none)) = some (r1, r2, r3) := H
    have A6 := Aside0.mk A60
    clear A60
    by_cases c7 : x3_1.length < 17592186044416
    ·rw [if_pos c7] at H
     have LMc7 := Aside0.mk c7
     clear c7
     obtain ⟨y388, hy388⟩ : ∃ y_ : List Int, y_ = (x3_1 ++ [t385]) := ⟨_, rfl⟩
     replace H : (spec_l03Left.l0 k1 y388 (wrap64 (x4_1 + 1)) s0_0 t386 t387) = some (r1, r2, r3) := by first | (rw [hy388]; with_reducible exact H) | (have H2_ := (Option.bind_some _ _).symm.trans H; rw [hy388]; with_reducible exact H2_) | (have H2_ := (Option.bind_some _ _).symm.trans H; with_reducible exact H2_) | with_reducible exact H | (rw [hy388]; exact H) | exact H
     have Ny388 := Aside0.mk hy388
     clear hy388
     have H' := Aside0.mk H
     clear H
     go_wp2_with (first | ((with_reducible refine gate_callee (f := 65) rfl ?_); refine goesL_ (some 8) rfl rfl Try.func65 (by kernel_rfl) rfl #[.pointer (some ⟨g, 0, none⟩), .int .i64 6] rfl (by (try simp only [List.map_toArray, List.map_cons, List.map_nil]); first | done | rfl | (simp only [List.length_drop, List.length_take]; rfl)) ?_; (with_reducible refine (spec_l01Below.calls g s0_0 x1001_1 x1002_1 6 t379 t380 t381 w0 _ ?side1 ?side2 A4.out).mono ?_); (case side1 => exact ii_ HI0); (case side2 => exact hj_ HB); rintro e w8 ⟨rfl, hi, hb, hk⟩; refine ⟨_, rfl, ?_⟩; have n0_ := Aside0.mk (Kd.R_mono (Kd.R_keep (IsS101.apart (show IsS101 w0 _ g s0_0 x1001_1 x1002_1 from ii_ HI0) (rr_ HO_3) (by decide)) hk (fun _ h => h.2)) (fun _ h => h.1)); have n1_ := Aside0.mk (KeepBut.trans (kk_ HK) hk (.inl rfl)); have n2_ := Aside0.mk (hb); have n3_ := Aside0.mk (hi); clear HO_3 HK HB HI0; have HO_3 := n0_; have HK := n1_; have HB := n2_; have HI0 := n3_; clear n0_ n1_ n2_ n3_; (try clear hb); (try clear hb2); (try clear hk); (try clear hi)) | ((with_reducible refine gate_dst (N := 14) rfl ?_); refine Kd.R_lit (Kd.int .i64) _ 3 ?hg (N := 14) ?hd (xs := ([0, 1, 2, 3, 5, 9, 40, 200, (-1), 9223372036854775807] : List Int)) (inner := [.int .i64 0, .int .i64 1, .int .i64 2, .int .i64 3, .int .i64 5, .int .i64 9, .int .i64 40, .int .i64 200, .int .i64 (-1), .int .i64 9223372036854775807]) (ok := fun _ => True) (okp := fun _ => True) ?hr ?hp (fun _ hk => hk) trivial (Below.refl _ _) (Nat.le_refl _) (by simp) ?_; (case hd => rfl); (case hg => rfl); (case hr => first | (go_simp; done) | (go_simp; rfl)); (case hp => exact (Reps.one (show Kd.M (Kd.int .i64) _ _ _ 0 [.int .i64 0] from rfl) (Reps.one (show Kd.M (Kd.int .i64) _ _ _ 1 [.int .i64 1] from rfl) (Reps.one (show Kd.M (Kd.int .i64) _ _ _ 2 [.int .i64 2] from rfl) (Reps.one (show Kd.M (Kd.int .i64) _ _ _ 3 [.int .i64 3] from rfl) (Reps.one (show Kd.M (Kd.int .i64) _ _ _ 5 [.int .i64 5] from rfl) (Reps.one (show Kd.M (Kd.int .i64) _ _ _ 9 [.int .i64 9] from rfl) (Reps.one (show Kd.M (Kd.int .i64) _ _ _ 40 [.int .i64 40] from rfl) (Reps.one (show Kd.M (Kd.int .i64) _ _ _ 200 [.int .i64 200] from rfl) (Reps.one (show Kd.M (Kd.int .i64) _ _ _ (-1) [.int .i64 (-1)] from rfl) (Reps.one (show Kd.M (Kd.int .i64) _ _ _ 9223372036854775807 [.int .i64 9223372036854775807] from rfl) (Reps.none _ _)))))))))))); intro v383 w9 ho10 hb hg_ hnew_; clear hg_ hnew_; (first | rw [← Ny382.out] at ho10 | (simp only [Int.reduceToNat] at ho10; rw [← Ny382.out] at ho10)); have n0_ := Aside0.mk (Kd.R_elder' (rr_ HO_3) (Kd.R_base ho10) hb); have n1_ := Aside0.mk (Kd.R_lower (Kd.R_new' ho10 (Kd.R_lt (rr_ HO_3))) (keep_size (w := w) (g := g) (row := none) (kk_ HK))); have n2_ := Aside0.mk (IsS101.below (ii_ HI0) hb); have n3_ := Aside0.mk (KeepBut.trans (kk_ HK) (KeepBut.of_below hb g none) (.inl rfl)); have n4_ := Aside0.mk (below_step (hj_ HB) hb); clear HO_3 HI0 HK HB; have HO_3 := n0_; have HO384 := n1_; have HI0 := n2_; have HK := n3_; have HB := n4_; clear n0_ n1_ n2_ n3_ n4_ hb ho10; obtain ⟨Ao11, co11, eo11⟩ := Kd.R_slice HO384.out; subst eo11) | ((with_reducible refine gate_callee (f := 77) rfl ?_); refine goesL_ (some 15) rfl rfl Try.func77 (by kernel_rfl) rfl #[.pointer (some ⟨g, 0, none⟩), .slice Ao11 y382.length co11] rfl (by (try simp only [List.map_toArray, List.map_cons, List.map_nil]); first | done | rfl | (simp only [List.length_drop, List.length_take]; rfl)) ?_; (with_reducible refine (spec_l01PickInt.calls g s0_0 t380 t381 _ _ y382 t385 t386 t387 w0 _ ?side1 ?side2 ?side3 ?side4 ?side5 A6.out).mono ?_); (case side1 => exact ii_ HI0); (case side2 => exact hj_ HB); (case side3 => repeat (first | exact (Kd.R_reads' HO384.out).2.2 | (with_reducible refine Kd.C_alloc ?_ _) | (with_reducible refine Kd.C_drewN ?_ _) | (with_reducible refine Kd.C_drew ?_))); (case side4 => exact (Kd.R_reads' HO384.out).2.1); (case side5 => exact far_slice (IsS101.own_ne HI0.out HO384.out (by decide))); rintro e w12 ⟨rfl, hi, hb, hk⟩; refine ⟨_, rfl, ?_⟩; have n0_ := Aside0.mk (Kd.R_mono (Kd.R_keep (IsS101.apart (show IsS101 w0 _ g s0_0 t380 t381 from ii_ HI0) (rr_ HO_3) (by decide)) hk (fun _ h => h.2)) (fun _ h => h.1)); have n1_ := Aside0.mk (Kd.R_mono (Kd.R_keep (IsS101.apart (show IsS101 w0 _ g s0_0 t380 t381 from ii_ HI0) (rr_ HO384) (by decide)) hk (fun _ h => h.2)) (fun _ h => h.1)); have n2_ := Aside0.mk (KeepBut.trans (kk_ HK) hk (.inl rfl)); have n3_ := Aside0.mk (hb); have n4_ := Aside0.mk (hi); clear HO_3 HO384 HK HB HI0; have HO_3 := n0_; have HO384 := n1_; have HK := n2_; have HB := n3_; have HI0 := n4_; clear n0_ n1_ n2_ n3_ n4_; (try clear hb); (try clear hb2); (try clear hk); (try clear hi)) | ((with_reducible refine gate_builtin (b := .append) (xs := #[.tmp 12, .tmp 16]) rfl ?_); at_builtin; refine Kd.R_append (Kd.int .i64) w.heap.size rfl (.tmp 12) (.tmp 16) 54 3 (.int .i64 0) 8 rfl Try.underlying54 info3 rfl (by decide) (by omega) u3 x3_1 t385 [.int .i64 t385] (fun k_ => some k_ ≠ (.slice Ao11 y382.length co11 : Value).ownBlock) (fun _ => False) rfl rfl ?aP (fun _ hk => hk.elim) ?aF ?aO (Below.refl _ _) ?aS ?aL ?_; (case aP => exact rfl); (case aF => exact (fun k_ hk => Kd.fresh' (Kd.R_lt (rr_ HO384)) k_ hk)); (case aO => exact (by (with_reducible repeat (first | apply Kd.R_alloc | apply Kd.R_drewN | apply Kd.R_drew)); exact Kd.R_mono HO_3.out (fun _ hk => hk.2))); (case aS => exact (keep_size (w := w) (g := g) (row := none) (kk_ HK))); (case aL => have := LMc7.out; omega); intro v389 w13 ho hb hg hat; rw [← Ny388.out] at ho; have n0_ := Aside0.mk (IsS101.grown (ii_ HI0) hg (IsS101.own_ne HI0.out HO_3.out (by decide))); have n1_ := Aside0.mk (Kd.R_after (ok := (fun _ => True)) (rr_ HO384) hg hat); have n2_ := Aside0.mk (below_weaken (hj_ HB) HL.out hb); have n3_ := Aside0.mk (KeepBut.trans (kk_ HK) (KeepBut.of_grown hg g) (Kd.R_base2 HO_3.out)); have n4_ := Aside0.mk (ho); clear HI0 HO384 HB HK HO_3; have HI0 := n0_; have HO384 := n1_; have HB := n2_; have HK := n3_; have HO390 := n4_; clear n0_ n1_ n2_ n3_ n4_ ho hb hg hat))
     go_roundg k1
     case measure => have := HK1.out; omega
     case rel => exact ⟨(y388), (wrap64 (x4_1 + 1)), (t386), (t387), (by first | rfl | (simp; done) | (simp [*]; done)), H', ⟨by have := HK1.out; omega⟩, ⟨by (with_reducible repeat (first | apply Kd.R_alloc | apply Kd.R_drewN | apply Kd.R_drew)); exact Kd.R_mono HO390.out (fun _ hk => trivial)⟩, ⟨ii_ HI0⟩, ⟨kk_ HK⟩, ⟨hj_ HB⟩⟩
    ·rw [if_neg c7] at H
     exact absurd H (by simp)
   ·rw [if_neg c5] at H
    have c5b0 : decide (x4_1 < t379) = false := decide_eq_false c5
    clear c5
    simp only [Option.some.injEq, Prod.mk.injEq] at H
    obtain ⟨rfl, rfl, rfl⟩ := H
    go_wp2_with (first | ((with_reducible refine gate_callee (f := 65) rfl ?_); refine goesL_ (some 8) rfl rfl Try.func65 (by kernel_rfl) rfl #[.pointer (some ⟨g, 0, none⟩), .int .i64 6] rfl (by (try simp only [List.map_toArray, List.map_cons, List.map_nil]); first | done | rfl | (simp only [List.length_drop, List.length_take]; rfl)) ?_; (with_reducible refine (spec_l01Below.calls g s0_0 x1001_1 x1002_1 6 t379 t380 t381 w0 _ ?side1 ?side2 A4.out).mono ?_); (case side1 => exact ii_ HI0); (case side2 => exact hj_ HB); rintro e w14 ⟨rfl, hi, hb, hk⟩; refine ⟨_, rfl, ?_⟩; have n0_ := Aside0.mk (Kd.R_mono (Kd.R_keep (IsS101.apart (show IsS101 w0 _ g s0_0 x1001_1 x1002_1 from ii_ HI0) (rr_ HO_3) (by decide)) hk (fun _ h => h.2)) (fun _ h => h.1)); have n1_ := Aside0.mk (KeepBut.trans (kk_ HK) hk (.inl rfl)); have n2_ := Aside0.mk (hb); have n3_ := Aside0.mk (hi); clear HO_3 HK HB HI0; have HO_3 := n0_; have HK := n1_; have HB := n2_; have HI0 := n3_; clear n0_ n1_ n2_ n3_; (try clear hb); (try clear hb2); (try clear hk); (try clear hi)))
    go_ret
    exact ⟨_, by first | rfl | (simp [errW_none, errW_some] <;> rfl) | (simp [*, errW_none, errW_some] <;> rfl), by (with_reducible repeat (first | apply Kd.R_alloc | apply Kd.R_drewN | apply Kd.R_drew)); exact HO_3.out, by repeat (first | (with_reducible first | exact HI0.out | apply IsS101.alloc | apply IsS101.drewN | apply IsS101.drew | apply IsS101.set_1 | apply IsS101.set_2) | exact HI0.out), by repeat (first | (with_reducible first | exact HB.out | apply below_alloc | apply pw_below_drewN | apply below_drew1 | refine below_set ?_ (IsS101.ge HI0.out)) | exact HB.out), by repeat (first | (with_reducible first | exact HK.out | apply KeepBut.set_ | apply keep_drewN | apply keep_drew | apply keep_alloc) | exact HK.out)⟩

/-! ### spec_DrawCutActs: function 46 -/
def spec_DrawCutActs.f (k : Nat) (l0 : List Int) : Option ((List (S67)) × (List (S41)) × Int × List Int) := (spec_l01New.f k l0).bind fun bt392 => ((spec_l03Disk.f k bt392.1 bt392.2.1 bt392.2.2).bind fun bt396 => ((spec_l03Acts.f k bt392.1 bt396.2.1 bt396.2.2 bt396.1).bind fun bt402 => ((spec_l01Place.f bt392.1 bt402.2.1 bt402.2.2 (wrap64 ((bt402.1.length : Int) + 1))).bind fun bt407 => ((spec_l03Left.f k bt392.1 bt407.2.1 bt407.2.2).bind fun bt410 => (some (bt396.1, bt402.1, bt407.1, bt410.1))))))
theorem spec_DrawCutActs.mono : ∀ a0 k, LeO (spec_DrawCutActs.f k a0) (spec_DrawCutActs.f (k + 1) a0) := by
 intro a0 k
 unfold spec_DrawCutActs.f
 repeat' first
   | (with_reducible exact spec_l01New.mono _ _)
   | (with_reducible exact spec_l03Acts.mono _ _ _ _ _)
   | (with_reducible exact spec_l03Disk.mono _ _ _ _)
   | (with_reducible exact spec_l03Left.mono _ _ _ _)
   | (with_reducible exact LeO.refl _)
   | (with_reducible exact LeO.none _)
   | (with_reducible refine LeO.ite ?_ ?_)
   | (with_reducible refine LeO.bind ?_ (fun _ => ?_))
   | exact spec_l01New.mono _ _
   | exact spec_l03Acts.mono _ _ _ _ _
   | exact spec_l03Disk.mono _ _ _ _
   | exact spec_l03Left.mono _ _ _ _
   | exact LeO.none _
   | refine LeO.ite ?_ ?_
   | refine LeO.bind ?_ (fun _ => ?_)
def spec_DrawCutActs.T4 : Bool × List (List Nat × List Nat) := (true, [([], []), ([], []), ([], []), ([], []), ([3], [3]), ([4], [4]), ([2, 5], [2, 5]), ([], []), ([7, 6], [7]), ([0, 8, 0], [0]), ([1, 9, 0, 1, 9], [1]), ([6, 10, 0, 1, 2, 3, 4, 5, 6, 9, 10], [6]), ([8, 11, 0, 1, 2, 3, 4, 5, 6, 7, 8, 9, 10, 11], [8])])
def spec_DrawCutActs.B4 : List Nat := [0, 0, 0, 0, 8, 24, 60, 0, 252, 509, 1023, 2047, 4095]
theorem spec_DrawCutActs.tab4 : rtab .any (opsOf Try.f46 4) = spec_DrawCutActs.T4 := by kernel_rfl
theorem spec_DrawCutActs.bits4 : waitsOk spec_DrawCutActs.T4.2 spec_DrawCutActs.B4 = true := by kernel_rfl
set_option maxHeartbeats 8000000 in
set_option maxRecDepth 100000 in
theorem spec_DrawCutActs.calls (k : Nat) (A0 : Option Addr) (c0 : Nat) (l0 : List Int) (r1 : List (S67)) (r2 : List (S41)) (r3 : Int) (r4 : List Int) (w : World) (hr0 : Kd.C (Kd.int .u8) w A0 l0.length l0) (hc0 : l0.length ≤ c0) (h : spec_DrawCutActs.f k l0 = some (r1, r2, r3, r4)) :
  Calls Try.prog 46 #[.slice A0 l0.length c0] w fun e w' => ∃ v0_ v1_ v3_ : Value, e = .returned (.tuple #[.agg #[v0_], v1_, .int .i64 r3, v3_]) ∧ Kd.R k67 67 w' w.heap.size (fun _ => True) v0_ r1 ∧ Kd.R k41 41 w' w.heap.size (fun _ => True) v1_ r2 ∧ Kd.R (Kd.int .i64) 3 w' w.heap.size (fun _ => True) v3_ r4 ∧ Below w.heap.size w w' := by
 have hu29 := Try.underlying29
 have HR0 := Aside0.mk hr0
 have HC0 := Aside0.mk hc0
 clear hr0 hc0
 have HB := Aside0.mk (Below.refl w.heap.size w)
 have H : ((spec_l01New.f k l0).bind fun bt392 => ((spec_l03Disk.f k bt392.1 bt392.2.1 bt392.2.2).bind fun bt396 => ((spec_l03Acts.f k bt392.1 bt396.2.1 bt396.2.2 bt396.1).bind fun bt402 => ((spec_l01Place.f bt392.1 bt402.2.1 bt402.2.2 (wrap64 ((bt402.1.length : Int) + 1))).bind fun bt407 => ((spec_l03Left.f k bt392.1 bt407.2.1 bt407.2.2).bind fun bt410 => (some (bt396.1, bt402.1, bt407.1, bt410.1))))))) = some (r1, r2, r3, r4) := h
 clear h
 replace H := Option.bind_eq_some_iff.mp H
 obtain ⟨⟨t392, t393, t394⟩, A20, H⟩ := H
 replace H : ((spec_l03Disk.f k t392 t393 t394).bind fun bt396 => ((spec_l03Acts.f k t392 bt396.2.1 bt396.2.2 bt396.1).bind fun bt402 => ((spec_l01Place.f t392 bt402.2.1 bt402.2.2 (wrap64 ((bt402.1.length : Int) + 1))).bind fun bt407 => ((spec_l03Left.f k t392 bt407.2.1 bt407.2.2).bind fun bt410 => (some (bt396.1, bt402.1, bt407.1, bt410.1)))))) = some (r1, r2, r3, r4) := H
 have A2 := Aside0.mk A20
 clear A20
 replace H := Option.bind_eq_some_iff.mp H
 obtain ⟨⟨t396, t399, t400⟩, A30, H⟩ := H
 replace H : ((spec_l03Acts.f k t392 t399 t400 t396).bind fun bt402 => ((spec_l01Place.f t392 bt402.2.1 bt402.2.2 (wrap64 ((bt402.1.length : Int) + 1))).bind fun bt407 => ((spec_l03Left.f k t392 bt407.2.1 bt407.2.2).bind fun bt410 => (some (t396, bt402.1, bt407.1, bt410.1))))) = some (r1, r2, r3, r4) := H
 have A3 := Aside0.mk A30
 clear A30
 replace H := Option.bind_eq_some_iff.mp H
 obtain ⟨⟨t402, t405, t406⟩, A40, H⟩ := H
 replace H : ((spec_l01Place.f t392 t405 t406 (wrap64 ((t402.length : Int) + 1))).bind fun bt407 => ((spec_l03Left.f k t392 bt407.2.1 bt407.2.2).bind fun bt410 => (some (t396, t402, bt407.1, bt410.1)))) = some (r1, r2, r3, r4) := H
 have A4 := Aside0.mk A40
 clear A40
 replace H := Option.bind_eq_some_iff.mp H
 obtain ⟨⟨t407, t408, t409⟩, A50, H⟩ := H
 replace H : ((spec_l03Left.f k t392 t408 t409).bind fun bt410 => (some (t396, t402, t407, bt410.1))) = some (r1, r2, r3, r4) := H
 have A5 := Aside0.mk A50
 clear A50
 replace H := Option.bind_eq_some_iff.mp H
 obtain ⟨⟨t410, t413, t414⟩, A60, H⟩ := H
 replace H : (some (t396, t402, t407, t410)) = some (r1, r2, r3, r4) := H
 have A6 := Aside0.mk A60
 clear A60
 simp only [Option.some.injEq, Prod.mk.injEq] at H
 obtain ⟨rfl, rfl, rfl, rfl⟩ := H
 go_enter Try.func46, Try.ntmps46
 try go_wp2_with (first | ((with_reducible refine gate_dst (N := 2) rfl ?_); refine box_event ?hg (N := 2) ?hd (cs := #[.slice none 0 0]) (t := 29) ?hr ?_; (case hd => rfl); (case hg => rfl); (case hr => first | (go_simp; done) | (go_simp; rfl)); intro gb391 hg w7 hbox hb; have n0_ := Aside0.mk (below_step (hh_ HB) hb); have n1_ := Aside0.mk (hbox); have n2_ := Aside0.mk ((by rw [hg]; exact (below_size (hh_ HB)) : w.heap.size ≤ gb391)); have n3_ := n2_; clear HB; have HB := n0_; have BK391 := n1_; have GW391 := n2_; have GE391 := n3_; clear n0_ n1_ n2_ n3_ hb hbox hg) | ((with_reducible refine gate_callee (f := 64) rfl ?_); refine goesL_ (some 10) rfl rfl Try.func64 (by kernel_rfl) rfl #[.slice A0 l0.length c0] rfl (by (try simp only [List.map_toArray, List.map_cons, List.map_nil]); first | done | rfl | (simp only [List.length_drop, List.length_take]; rfl)) ?_; (with_reducible refine (spec_l01New.calls k _ _ l0 t392 t393 t394 w _ ?side1 ?side2 ?side3 A2.out).mono ?_); (case side1 => exact hj_ HB); (case side2 => exact HR0.out); (case side3 => exact HC0.out); rintro e w8 ⟨g395, rfl, hi, hb, hb2⟩; refine ⟨_, rfl, ?_⟩; have n0_ := Aside0.mk (blk_below (bb_ BK391) hb2); have n1_ := Aside0.mk (hb); have n2_ := Aside0.mk (hi); have n3_ := Aside0.mk (IsS101.ne_blk hi (blk_below (bb_ BK391) hb2) (by decide)); have n4_ := Aside0.mk (Ne.symm (IsS101.ne_blk hi (blk_below (bb_ BK391) hb2) (by decide))); clear BK391 HB; have BK391 := n0_; have HB := n1_; have HI395 := n2_; have NB395_391 := n3_; have NB391_395 := n4_; clear n0_ n1_ n2_ n3_ n4_; (try clear hb); (try clear hb2); (try clear hk); (try clear hi)) | ((with_reducible refine gate_callee (f := 69) rfl ?_); refine goesL_ (some 12) rfl rfl Try.func69 (by kernel_rfl) rfl #[.pointer (some ⟨g395, 0, none⟩)] rfl (by (try simp only [List.map_toArray, List.map_cons, List.map_nil]); first | done | rfl | (simp only [List.length_drop, List.length_take]; rfl)) ?_; (with_reducible refine (spec_l03Disk.calls k g395 t392 t393 t394 t396 t399 t400 w _ ?side1 ?side2 A3.out).mono ?_); (case side1 => exact ii_ HI395); (case side2 => exact hj_ HB); rintro e w9 ⟨v397, rfl, ho0, hi, hb, hk⟩; refine ⟨_, rfl, ?_⟩; have n0_ := Aside0.mk (KeepBut.blk hk (g' := gb391) (o := .cells #[.slice none 0 0] 29 (0, 0)) (bb_ BK391) NB391_395.out (by simp)); have n1_ := Aside0.mk (Kd.R_lower ho0 (below_size (hj_ HB))); have n2_ := Aside0.mk (hb); have n3_ := Aside0.mk (hi); clear BK391 HB HI395; have BK391 := n0_; have HO398 := n1_; have HB := n2_; have HI395 := n3_; clear n0_ n1_ n2_ n3_; (try clear hb); (try clear hb2); (try clear hk); (try clear hi); (try clear ho0)) | ((with_reducible refine gate_dst (N := 7) rfl ?_); refine box_event ?hg (N := 7) ?hd (cs := #[.slice none 0 0]) (t := 29) ?hr ?_; (case hd => rfl); (case hg => rfl); (case hr => first | (go_simp; done) | (go_simp; rfl)); intro gb401 hg w10 hbox hb; have n0_ := Aside0.mk (Kd.R_below (rr_ HO398) hb); have n1_ := Aside0.mk (blk_below (bb_ BK391) hb); have n2_ := Aside0.mk (IsS101.below (ii_ HI395) hb); have n3_ := Aside0.mk (below_step (hj_ HB) hb); have n4_ := Aside0.mk (hbox); have n5_ := Aside0.mk ((by rw [hg]; exact (below_size (hj_ HB)) : w.heap.size ≤ gb401)); have n6_ := n5_; have n7_ := Aside0.mk ((by rw [hg]; exact Nat.ne_of_lt (blk_lt (bb_ BK391)) : gb391 ≠ gb401)); have n8_ := Aside0.mk ((by rw [hg]; exact Nat.ne_of_gt (blk_lt (bb_ BK391)) : gb401 ≠ gb391)); have n9_ := Aside0.mk ((by rw [hg]; exact Nat.ne_of_lt (IsS101.lt (show IsS101 w _ g395 t392 t399 t400 from ii_ HI395)) : g395 ≠ gb401)); have n10_ := Aside0.mk ((by rw [hg]; exact Nat.ne_of_gt (IsS101.lt (show IsS101 w _ g395 t392 t399 t400 from ii_ HI395)) : gb401 ≠ g395)); clear HO398 BK391 HI395 HB; have HO398 := n0_; have BK391 := n1_; have HI395 := n2_; have HB := n3_; have BK401 := n4_; have GW401 := n5_; have GE401 := n6_; have NB391_401 := n7_; have NB401_391 := n8_; have NB395_401 := n9_; have NB401_395 := n10_; clear n0_ n1_ n2_ n3_ n4_ n5_ n6_ n7_ n8_ n9_ n10_ hb hbox hg; obtain ⟨Ao11, co11, eo11⟩ := Kd.R_slice HO398.out; subst eo11; have hnb12 := NB401_391.out; have hnc12 := NB391_401.out; have hnb13 := NB401_395.out; have hnc13 := NB395_401.out; have hcz14_0 : w10.cell? ⟨gb401, 0, none⟩ = some (.slice none 0 0) := (blk_cell BK401.out 0).trans rfl; have hfz14_0 := blk_frozen BK401.out 0) | ((with_reducible refine gate_store (t := 29) (p := 7) rfl ?_); refine store_event (t := 29) (p := 7) (v := ?vo_w15) (w1 := (w10.setCell ⟨gb401, 0, none⟩ (.slice Ao11 t396.length co11))) ?hg ?ho ?hn ?hr ?_; (case ho => rfl); (case hg => rfl); (case hn => rfl); (case hr => first | (go_simp; done) | (go_simp; rfl)); intro w15 hw; have n0_ : Aside0 (Kd.R k67 67 w15 w.heap.size (fun _ => True) (.slice Ao11 t396.length co11) t396) := ⟨(by rw [hw]; exact (by (with_reducible repeat (first | apply Kd.R_alloc | apply Kd.R_drewN | apply Kd.R_drew)); exact Kd.R_mono (Kd.R_far (p := ⟨gb401, 0, none⟩) (Kd.R_types HO398.out BK401.out (by decide)) (fun _ hk => hk.2) (.slice Ao11 t396.length co11)) (fun _ hk => trivial)))⟩; have n1_ : Aside0 (w15.heap[gb391]? = some (.cells #[.slice none 0 0] 29 (0, 0))) := ⟨(by rw [hw]; exact (by (with_reducible repeat (first | refine blk_drewN ?_ _ | refine blk_drew ?_ | refine blk_alloc ?_ _)); refine blk_far ?_ NB391_401.out _; exact bb_ BK391))⟩; have n2_ : Aside0 (w15.heap[gb401]? = some (.cells #[.slice Ao11 t396.length co11] 29 (0, 0))) := ⟨(by rw [hw]; exact (by (with_reducible repeat (first | refine blk_drewN ?_ _ | refine blk_drew ?_ | refine blk_alloc ?_ _)); refine blk_put (cs := #[.slice none 0 0]) ?_ 0 _ rfl; exact bb_ BK401))⟩; have n3_ : Aside0 (IsS101 w w15 g395 t392 t399 t400) := ⟨(by rw [hw]; exact (ii_ HI395))⟩; have n4_ : Aside0 (Below w.heap.size w w15) := ⟨(by rw [hw]; exact (hj_ HB))⟩; clear hw HO398 BK391 BK401 HI395 HB; have HO398 := n0_; have BK391 := n1_; have BK401 := n2_; have HI395 := n3_; have HB := n4_; clear n0_ n1_ n2_ n3_ n4_; have hcz16_0 : w15.cell? ⟨gb401, 0, none⟩ = some (.slice Ao11 t396.length co11) := (blk_cell BK401.out 0).trans rfl; have hfz16_0 := blk_frozen BK401.out 0) | ((with_reducible refine gate_callee (f := 70) rfl ?_); refine goesL_ (some 15) rfl rfl Try.func70 (by kernel_rfl) rfl #[.pointer (some ⟨g395, 0, none⟩), .agg #[.slice Ao11 t396.length co11]] rfl (by (try simp only [List.map_toArray, List.map_cons, List.map_nil]); first | done | rfl | (simp only [List.length_drop, List.length_take]; rfl)) ?_; (with_reducible refine (spec_l03Acts.calls k g395 t392 t399 t400 (fun k_ => some k_ = (.slice Ao11 t396.length co11 : Value).ownBlock) _ _ t396 t402 t405 t406 w _ ?side1 ?side2 ?side3 A4.out).mono ?_); (case side1 => exact ii_ HI395); (case side2 => exact hj_ HB); (case side3 => exact Kd.V_mono (Kd.R_V (Kd.R_tight rfl (IsS101.apart HI395.out (Kd.R_types (Kd.R_types (HO398.out) BK391.out (by decide)) BK401.out (by decide)) (by decide)))) (fun k_ hk_ => ⟨hk_, ((IsS101.apart HI395.out (Kd.R_types (Kd.R_types (HO398.out) BK391.out (by decide)) BK401.out (by decide)) (by decide)).1 k_ hk_.symm).2⟩)); rintro e w17 ⟨v403, rfl, ho0, hi, hb, hk⟩; refine ⟨_, rfl, ?_⟩; have n0_ := Aside0.mk (KeepBut.blk hk (g' := gb391) (o := .cells #[.slice none 0 0] 29 (0, 0)) (bb_ BK391) NB391_395.out (by simp)); have n1_ := Aside0.mk (Kd.R_mono (Kd.R_keep (IsS101.apart (show IsS101 w _ g395 t392 t399 t400 from ii_ HI395) (rr_ HO398) (by decide)) hk (fun _ h => h.2)) (fun _ h => h.1)); have n2_ := Aside0.mk (KeepBut.blk hk (g' := gb401) (o := .cells #[.slice Ao11 t396.length co11] 29 (0, 0)) (bb_ BK401) NB401_395.out (by simp)); have n3_ := Aside0.mk (Kd.R_lower (Kd.R_mono (ok' := fun k_ => True) ho0 (fun _ hk_ => trivial)) (below_size (hj_ HB))); have n4_ := Aside0.mk (hb); have n5_ := Aside0.mk (hi); clear BK391 HO398 BK401 HB HI395; have BK391 := n0_; have HO398 := n1_; have BK401 := n2_; have HO404 := n3_; have HB := n4_; have HI395 := n5_; clear n0_ n1_ n2_ n3_ n4_ n5_; (try clear hb); (try clear hb2); (try clear hk); (try clear hi); (try clear ho0)))
 have n0_ := Aside0.mk (Kd.R_drew HO398.out)
 have n1_ := Aside0.mk (Kd.R_drew HO404.out)
 have n2_ := Aside0.mk (blk_drew BK391.out)
 have n3_ := Aside0.mk (blk_drew BK401.out)
 have n4_ := Aside0.mk (IsS101.drew HI395.out)
 have n5_ := Aside0.mk (below_drew1 HB.out)
 clear HO398 HO404 BK391 BK401 HI395 HB
 have HO398 := n0_; have HO404 := n1_; have BK391 := n2_; have BK401 := n3_; have HI395 := n4_; have HB := n5_
 clear n0_ n1_ n2_ n3_ n4_ n5_
 obtain ⟨Ao19, co19, eo19⟩ := Kd.R_slice HO404.out
 (first | subst eo19 | (injection eo19 with f1_ f2_ f3_; have f4_ := f1_.symm; have f5_ := f3_.symm; clear f1_ f2_ f3_; subst f4_; subst f5_))
 refine start_ (n := 13) (S := fun w' => w'.cell? ⟨gb401, 0, none⟩ = some (.slice Ao11 t396.length co11)) (ds := []) #[false, false, false, false, false, false, false, false, false, false, false, false, false] (by kernel_rfl) rfl rfl ((blk_cell BK401.out 0).trans rfl) (fun hHeld => ?_); refine with_tabW spec_DrawCutActs.tab4 spec_DrawCutActs.bits4 (fun HT_ HW_ => ?_)
 generalize w17.drew = w18 at HO398 HO404 BK391 BK401 HI395 HB hHeld ⊢
 refine pure_ (i := 1) (N := some 17) (v := ?_) (a' := ?_) #[false, true, false, false, false, false, false, false, false, false, false, false, false] rfl rfl (any_of HT_.out (by kernel_rfl)) (fun _ _ _ h => h) (Or.inl ⟨by rfl, ?_⟩) ?_ ?_
 rotate_left
 ·intro w'
  go_simp
  with_reducible rfl
 rotate_left
 ·simp only [Act.put, List.setIfInBounds_toArray, List.set_cons_zero, List.set_cons_succ, i64_w, i32_w]
  rfl
 refine pure_ (i := 2) (N := some 18) (v := ?_) (a' := ?_) #[false, true, true, false, false, false, false, false, false, false, false, false, false] rfl rfl (any_of HT_.out (by kernel_rfl)) (fun _ _ _ h => h) (Or.inl ⟨by rfl, ?_⟩) ?_ ?_
 rotate_left
 ·intro w'
  go_simp
  with_reducible rfl
 rotate_left
 ·simp only [Act.put, List.setIfInBounds_toArray, List.set_cons_zero, List.set_cons_succ, i64_w, i32_w]
  rfl
 refine pure_ (i := 3) (N := some 19) (v := ?_) (a' := ?_) #[false, true, true, true, false, false, false, false, false, false, false, false, false] rfl rfl (any_of HT_.out (by kernel_rfl)) (fun _ _ _ h => h) (Or.inl ⟨by rfl, ?_⟩) ?_ ?_
 rotate_left
 ·intro w'
  go_simp
  with_reducible rfl
 rotate_left
 ·simp only [Act.put, List.setIfInBounds_toArray, List.set_cons_zero, List.set_cons_succ, i64_w, i32_w]
  rfl
 refine pure_ (i := 4) (N := some 20) (v := ?_) (a' := ?_) #[false, true, true, true, true, false, false, false, false, false, false, false, false] rfl rfl (any_of HT_.out (by kernel_rfl)) (fun _ _ _ h => h) (Or.inl ⟨by rfl, ?_⟩) ?_ ?_
 rotate_left
 ·intro w'
  go_simp
  with_reducible rfl
 rotate_left
 ·simp only [Act.put, List.setIfInBounds_toArray, List.set_cons_zero, List.set_cons_succ, i64_w, i32_w]
  rfl
 refine pure_ (i := 5) (N := some 21) (v := ?_) (a' := ?_) #[false, true, true, true, true, true, false, false, false, false, false, false, false] rfl rfl (any_of HT_.out (by kernel_rfl)) (fun _ _ _ h => h) (Or.inl ⟨by rfl, ?_⟩) ?_ ?_
 rotate_left
 ·intro w'
  go_simp
  with_reducible rfl
 rotate_left
 ·simp only [Act.put, List.setIfInBounds_toArray, List.set_cons_zero, List.set_cons_succ, i64_w, i32_w]
  rfl
 refine pure_ (i := 7) (N := some 23) (v := ?_) (a' := ?_) #[false, true, true, true, true, true, false, true, false, false, false, false, false] rfl rfl (any_of HT_.out (by kernel_rfl)) (fun _ _ _ h => h) (Or.inl ⟨by rfl, ?_⟩) ?_ ?_
 rotate_left
 ·intro w'
  go_simp
  with_reducible rfl
 rotate_left
 ·simp only [Act.put, List.setIfInBounds_toArray, List.set_cons_zero, List.set_cons_succ, i64_w, i32_w]
  rfl
 refine take_ (i := 0) (N := some 16) (v := ?_) (a' := ?_) #[true, true, true, true, true, true, false, true, false, false, false, false, false] rfl rfl (take_ofW HT_.out HW_.out (by kernel_rfl)) (fun _ _ _ h => h) (Or.inl ⟨by rfl, ?_⟩) hHeld ?_ ?_
 rotate_left
 ·intro w' s0
  go_simp
  with_reducible rfl
 rotate_left
 ·simp only [Act.put, List.setIfInBounds_toArray, List.set_cons_zero, List.set_cons_succ, i64_w, i32_w]
  rfl
 refine one_ (i := 6) (N := some 22) #[true, true, true, true, true, true, true, true, false, false, false, false, false] rfl rfl (one_of HT_.out (by kernel_rfl)) (by decide) (fun K hK => ?_)
 refine goes_ Try.func71 (by kernel_rfl) rfl #[.pointer (some ⟨g395, 0, none⟩), .int .i64 (wrap64 ((t402.length : Int) + 1))] (by rfl) rfl rfl (by (try simp only [List.map_toArray, List.map_cons, List.map_nil]); first | done | rfl | (simp only [List.length_drop, List.length_take]; rfl)) ?_
 with_reducible refine (spec_l01Place.calls g395 t392 t405 t406 (wrap64 ((t402.length : Int) + 1)) t407 t408 t409 w _ ?side1 ?side2 A5.out).mono ?_
 (case side1 => exact ii_ HI395)
 (case side2 => exact hj_ HB)
 rintro e w20 ⟨rfl, hi, hb, hk⟩
 refine ⟨_, rfl, ?_⟩
 have n0_ := Aside0.mk (KeepBut.blk hk (g' := gb391) (o := .cells #[.slice none 0 0] 29 (0, 0)) BK391.out NB391_395.out (by simp))
 have n1_ := Aside0.mk (Kd.R_mono (Kd.R_keep (IsS101.apart (show IsS101 w _ g395 t392 t405 t406 from ii_ HI395) HO398.out (by decide)) hk (fun _ h => h.2)) (fun _ h => h.1))
 have n2_ := Aside0.mk (KeepBut.blk hk (g' := gb401) (o := .cells #[.slice Ao11 t396.length co11] 29 (0, 0)) BK401.out NB401_395.out (by simp))
 have n3_ := Aside0.mk (Kd.R_mono (Kd.R_keep (IsS101.apart (show IsS101 w _ g395 t392 t405 t406 from ii_ HI395) HO404.out (by decide)) hk (fun _ h => h.2)) (fun _ h => h.1))
 have n4_ := Aside0.mk (hb)
 have n5_ := Aside0.mk (hi)
 clear BK391 HO398 BK401 HO404 HB HI395
 have BK391 := n0_; have HO398 := n1_; have BK401 := n2_; have HO404 := n3_; have HB := n4_; have HI395 := n5_
 clear n0_ n1_ n2_ n3_ n4_ n5_
 (try clear hb); (try clear hb2); (try clear hk); (try clear hi)
 refine hK.out _ _ ((blk_cell BK401.out 0).trans rfl) (fun hHeld => ?_)
 clear hK K
 refine norm_ (a' := ?_) ?_ ?_
 rotate_left
 ·show Act.put _ (some 22) _ = _
  simp only [Act.put, List.setIfInBounds_toArray, List.set_cons_zero, List.set_cons_succ, i64_w, i32_w]
  rfl
 refine one_ (i := 8) (N := some 24) #[true, true, true, true, true, true, true, true, true, false, false, false, false] rfl rfl (one_of HT_.out (by kernel_rfl)) (by decide) (fun K hK => ?_)
 refine goes_ Try.func72 (by kernel_rfl) rfl #[.pointer (some ⟨g395, 0, none⟩)] (by rfl) rfl rfl (by (try simp only [List.map_toArray, List.map_cons, List.map_nil]); first | done | rfl | (simp only [List.length_drop, List.length_take]; rfl)) ?_
 with_reducible refine (spec_l03Left.calls k g395 t392 t408 t409 t410 t413 t414 w _ ?side1 ?side2 A6.out).mono ?_
 (case side1 => exact ii_ HI395)
 (case side2 => exact hj_ HB)
 rintro e w21 ⟨v411, rfl, ho0, hi, hb, hk⟩
 refine ⟨_, rfl, ?_⟩
 have n0_ := Aside0.mk (KeepBut.blk hk (g' := gb391) (o := .cells #[.slice none 0 0] 29 (0, 0)) BK391.out NB391_395.out (by simp))
 have n1_ := Aside0.mk (Kd.R_mono (Kd.R_keep (IsS101.apart (show IsS101 w _ g395 t392 t408 t409 from ii_ HI395) HO398.out (by decide)) hk (fun _ h => h.2)) (fun _ h => h.1))
 have n2_ := Aside0.mk (KeepBut.blk hk (g' := gb401) (o := .cells #[.slice Ao11 t396.length co11] 29 (0, 0)) BK401.out NB401_395.out (by simp))
 have n3_ := Aside0.mk (Kd.R_mono (Kd.R_keep (IsS101.apart (show IsS101 w _ g395 t392 t408 t409 from ii_ HI395) HO404.out (by decide)) hk (fun _ h => h.2)) (fun _ h => h.1))
 have n4_ := Aside0.mk (Kd.R_lower ho0 (below_size (hj_ HB)))
 have n5_ := Aside0.mk (hb)
 have n6_ := Aside0.mk (hi)
 clear BK391 HO398 BK401 HO404 HB HI395
 have BK391 := n0_; have HO398 := n1_; have BK401 := n2_; have HO404 := n3_; have HO412 := n4_; have HB := n5_; have HI395 := n6_
 clear n0_ n1_ n2_ n3_ n4_ n5_ n6_
 (try clear hb); (try clear hb2); (try clear hk); (try clear hi); (try clear ho0)
 refine hK.out _ _ ((blk_cell BK401.out 0).trans rfl) (fun hHeld => ?_)
 clear hK K
 refine norm_ (a' := ?_) ?_ ?_
 rotate_left
 ·show Act.put _ (some 24) _ = _
  simp only [Act.put, List.setIfInBounds_toArray, List.set_cons_zero, List.set_cons_succ, i64_w, i32_w]
  rfl
 refine one_ (i := 9) (N := none) #[true, true, true, true, true, true, true, true, true, true, false, false, false] rfl rfl (one_of HT_.out (by kernel_rfl)) (by decide) (fun K hK => ?_)
 have hs22 : w21.cell? ⟨gb391, 0, none⟩ = some (.slice none 0 0) := (blk_cell BK391.out 0).trans rfl
 have hfs22 := blk_frozen BK391.out 0
 have hns22_1 := NB401_391.out; have hms22_1 := NB391_401.out
 refine skip_ (w1 := ?_) (by rfl) rfl ?_ ?_
 rotate_left
 ·go_simp
  rfl
 refine hK.out _ _ (((cell_far (p := ⟨gb391, _, none⟩) NB401_391.out _).trans (hHeld))) (fun hHeld => ?_)
 clear hK K
 refine pure_ (i := 10) (N := some 3) (v := ?_) (a' := ?_) #[true, true, true, true, true, true, true, true, true, true, true, false, false] rfl rfl (any_of HT_.out (by kernel_rfl)) (fun _ _ _ h => h) (Or.inl ⟨by rfl, ?_⟩) ?_ ?_
 rotate_left
 ·intro w'
  go_simp
  with_reducible rfl
 rotate_left
 ·simp only [Act.put, List.setIfInBounds_toArray, List.set_cons_zero, List.set_cons_succ, i64_w, i32_w]
  rfl
 refine pure_ (i := 11) (N := some 4) (v := ?_) (a' := ?_) #[true, true, true, true, true, true, true, true, true, true, true, true, false] rfl rfl (any_of HT_.out (by kernel_rfl)) (fun _ _ _ h => h) (Or.inl ⟨by rfl, ?_⟩) ?_ ?_
 rotate_left
 ·intro w'
  go_simp
  with_reducible rfl
 rotate_left
 ·simp only [Act.put, List.setIfInBounds_toArray, List.set_cons_zero, List.set_cons_succ, i64_w, i32_w]
  rfl
 refine pure_ (i := 12) (N := some 5) (v := ?_) (a' := ?_) #[true, true, true, true, true, true, true, true, true, true, true, true, true] rfl rfl (any_of HT_.out (by kernel_rfl)) (fun _ _ _ h => h) (Or.inl ⟨by rfl, ?_⟩) ?_ ?_
 rotate_left
 ·intro w'
  go_simp
  with_reducible rfl
 rotate_left
 ·simp only [Act.put, List.setIfInBounds_toArray, List.set_cons_zero, List.set_cons_succ, i64_w, i32_w]
  rfl
 refine done_ (done_of HT_.out (by kernel_rfl)) ?_
 try go_wp2
 refine bodyPost_ret (results_list (rs := [.cell 2 29, .tmp 3, .tmp 4, .tmp 5]) rfl (by simp) (.cell gb391 29 #[.slice Ao11 t396.length co11] (0, 0) _ rfl (by (with_reducible repeat (first | refine blk_drewN ?_ _ | refine blk_drew ?_ | refine blk_alloc ?_ _)); refine blk_put (cs := #[.slice none 0 0]) ?_ 0 _ rfl; exact bb_ BK391) Try.underlying29 rfl (by kernel_rfl) (.tmp (.tmp (.tmp .nil))))) rfl ?_
 exact ⟨_, _, _, by first | rfl | (simp [errW_none, errW_some] <;> rfl) | (simp [*, errW_none, errW_some] <;> rfl), by (with_reducible repeat (first | apply Kd.R_alloc | apply Kd.R_drewN | apply Kd.R_drew)); exact Kd.R_mono (Kd.R_far (p := ⟨gb391, 0, none⟩) (Kd.R_types HO398.out BK391.out (by decide)) (fun _ hk => hk.2) (.slice Ao11 t396.length co11)) (fun _ hk => trivial), by (with_reducible repeat (first | apply Kd.R_alloc | apply Kd.R_drewN | apply Kd.R_drew)); exact Kd.R_mono (Kd.R_far (p := ⟨gb391, 0, none⟩) (Kd.R_types HO404.out BK391.out (by decide)) (fun _ hk => hk.2) (.slice Ao11 t396.length co11)) (fun _ hk => trivial), by (with_reducible repeat (first | apply Kd.R_alloc | apply Kd.R_drewN | apply Kd.R_drew)); exact Kd.R_mono (Kd.R_far (p := ⟨gb391, 0, none⟩) (Kd.R_types HO412.out BK391.out (by decide)) (fun _ hk => hk.2) (.slice Ao11 t396.length co11)) (fun _ hk => trivial), by repeat (first | (with_reducible first | exact HB.out | apply below_alloc | apply pw_below_drewN | apply below_drew1 | refine below_set ?_ (IsS101.ge HI395.out) | refine below_set ?_ GE391.out | refine below_set ?_ GE401.out) | exact HB.out)⟩

end Go.Proofs.Yteghgeanbglmoaa.PFnActs
