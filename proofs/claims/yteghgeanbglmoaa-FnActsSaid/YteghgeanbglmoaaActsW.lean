/- The law FnActs, walked. No condition. -/
import Derived.Test.YteghgeanbglmoaaPFnActsx0
import Derived.Test.YteghgeanbglmoaaPFnActsx1
import Derived.Test.YteghgeanbglmoaaPFnActsx2
import Derived.Test.YteghgeanbglmoaaPFnActsx3
import Derived.Test.YteghgeanbglmoaaPFnActsx4
import Derived.Test.YteghgeanbglmoaaPFnActsx5
import Derived.Test.YteghgeanbglmoaaPFnActsx6
import Derived.Test.YteghgeanbglmoaaPFnActsx7
import Derived.Test.YteghgeanbglmoaaPFnActsx8
import Derived.Test.YteghgeanbglmoaaPFnActsx9
import Derived.Test.YteghgeanbglmoaaPFnActsx10
import Derived.Deep.RegionLaw
import Derived.Laws.Cover1
namespace Go.Proofs.Yteghgeanbglmoaa.PFnActs
open Go.RowKit Go.Proofs.YteghgeanbglmoaaW.PrintWords Go.Proofs.YteghgeanbglmoaaW.PrintLast Go.Proofs.YteghgeanbglmoaaW.PrintMore
set_option linter.unusedVariables false
set_option linter.unusedSimpArgs false
/-- What the law's walk keeps: the boxes of the disk and of what the acts left, the four rows. -/
def acS (w : World) (b3 b7 : Nat) (v3 v7 v4 v6 : Value) (D R : List S67) (L : List S41) (q : List Int) (W : World) : Prop := (W.heap[b3]? = some (.cells #[v3] 29 (0, 0)) ∧ W.heap[b7]? = some (.cells #[v7] 29 (0, 0))) ∧ (Kd.R k67 67 W w.heap.size (fun _ => True) v3 D ∧ Kd.R k67 67 W w.heap.size (fun _ => True) v7 R) ∧ (Kd.R k41 41 W w.heap.size (fun _ => True) v4 L ∧ Kd.R (Kd.int .i64) 3 W w.heap.size (fun _ => True) v6 q) ∧ Below w.heap.size w W
theorem acS_below {w : World} {b3 b7 : Nat} {v3 v7 v4 v6 : Value} {D R : List S67} {L : List S41} {q : List Int} {W W' : World} (h : acS w b3 b7 v3 v7 v4 v6 D R L q W) (hb : Below W.heap.size W W') : acS w b3 b7 v3 v7 v4 v6 D R L q W' :=
  ⟨⟨blk_below h.1.1 hb, blk_below h.1.2 hb⟩, ⟨Kd.R_below h.2.1.1 hb, Kd.R_below h.2.1.2 hb⟩, ⟨Kd.R_below h.2.2.1.1 hb, Kd.R_below h.2.2.1.2 hb⟩, below_step h.2.2.2 hb⟩
theorem acS_set {w : World} {b3 b7 b : Nat} {v3 v7 v4 v6 u : Value} {D R : List S67} {L : List S41} {q : List Int} {W : World} (h : acS w b3 b7 v3 v7 v4 v6 D R L q W) (hb : W.heap[b]? = some (.cells #[u] 29 (0, 0))) (h3 : b3 ≠ b) (h7 : b7 ≠ b) (hw : w.heap.size ≤ b) (z : Value) : acS w b3 b7 v3 v7 v4 v6 D R L q (W.setCell ⟨b, 0, none⟩ z) :=
  ⟨⟨blk_far h.1.1 h3 _, blk_far h.1.2 h7 _⟩, ⟨Kd.R_set h.2.1.1 hb (by decide) 0 _, Kd.R_set h.2.1.2 hb (by decide) 0 _⟩, ⟨Kd.R_set h.2.2.1.1 hb (by decide) 0 _, Kd.R_set h.2.2.1.2 hb (by decide) 0 _⟩, below_set h.2.2.2 hw⟩
/-- The same, with the box and the row of the disk that the rounds go on with. -/
def acT (w : World) (b3 b7 bb : Nat) (v3 v7 v4 v6 vx : Value) (D R : List S67) (L : List S41) (q : List Int) (xs : List S67) (W : World) : Prop := acS w b3 b7 v3 v7 v4 v6 D R L q W ∧ W.heap[bb]? = some (.cells #[vx] 29 (0, 0)) ∧ Kd.R k67 67 W w.heap.size (fun _ => True) vx xs
theorem acT_below {w : World} {b3 b7 bb : Nat} {v3 v7 v4 v6 vx : Value} {D R : List S67} {L : List S41} {q : List Int} {xs : List S67} {W W' : World} (h : acT w b3 b7 bb v3 v7 v4 v6 vx D R L q xs W) (hb : Below W.heap.size W W') : acT w b3 b7 bb v3 v7 v4 v6 vx D R L q xs W' :=
  ⟨acS_below h.1 hb, blk_below h.2.1 hb, Kd.R_below h.2.2 hb⟩
theorem acT_set {w : World} {b3 b7 bb b : Nat} {v3 v7 v4 v6 vx u : Value} {D R : List S67} {L : List S41} {q : List Int} {xs : List S67} {W : World} (h : acT w b3 b7 bb v3 v7 v4 v6 vx D R L q xs W) (hb : W.heap[b]? = some (.cells #[u] 29 (0, 0))) (hn : b3 < b ∧ b7 < b ∧ bb < b) (hw : w.heap.size ≤ b) (z : Value) : acT w b3 b7 bb v3 v7 v4 v6 vx D R L q xs (W.setCell ⟨b, 0, none⟩ z) :=
  ⟨acS_set h.1 hb (Nat.ne_of_lt hn.1) (Nat.ne_of_lt hn.2.1) hw z, blk_far h.2.1 (Nat.ne_of_lt hn.2.2) _, Kd.R_set h.2.2 hb (by decide) 0 _⟩
theorem acT_lt {w : World} {b3 b7 bb : Nat} {v3 v7 v4 v6 vx : Value} {D R : List S67} {L : List S41} {q : List Int} {xs : List S67} {W : World} (h : acT w b3 b7 bb v3 v7 v4 v6 vx D R L q xs W) : b3 < W.heap.size ∧ b7 < W.heap.size ∧ bb < W.heap.size := ⟨blk_lt h.1.1.1, blk_lt h.1.1.2, blk_lt h.2.1⟩
theorem acQ_ {p0 p1 p2 p3 p4 q : Prop} (h : p0 ∧ p1 ∧ p2 ∧ p3 ∧ p4 ∧ Aside0 q) : q := h.2.2.2.2.2.out
set_option maxHeartbeats 8000000 in
set_option maxRecDepth 100000 in
theorem acts_law (k : Nat) (A0 : Option Addr) (c0 : Nat) (l0 : List Int) (w : World) (hr0 : Kd.C (Kd.int .u8) w A0 l0.length l0) (hc0 : l0.length ≤ c0) (D R C : List S67) (L : List S41) (wh : Int) (q : List Int) (n : Nat) (b : Bool) (X : Nat → List S67) (x y : Nat → ByteArray) (hx hy : Nat → Bool)
  (h1 : laws_big.f l0 = some false) (h2 : spec_DrawCutActs.f k l0 = some (D, L, wh, q)) (h3 : impl_DoActs.f k D L = some (R, (n : Int))) (h4 : spec_DoActs.f k D L = some (R, (n : Int))) (h5 : laws_sameDisk.f k R R = some true) (hn : n ≤ L.length) (hX0 : X 0 = D) (hXn : X n = R)
  (h6 : ∀ i, i < n → impl_DoAct.f (X i) (rd_T41 L i).f0 (rd_T41 L i).f1 (rd_T41 L i).f2 (rd_T41 L i).f3 = some (X (i + 1), true))
  (h7 : ∀ i, i < n → impl_FileAt.f (X i) (rd_T41 L i).f1 = some (x i, hx i))
  (h8 : ∀ i, i < n → impl_FileAt.f (X (i + 1)) (rd_T41 L i).f1 = some (y i, hy i))
  (h9 : ∀ i, i < n → (rd_T41 L i).f0 = 1 → hy i = true ∧ (x i).size + (rd_T41 L i).f2.size ≤ 9223372036854775807 ∧ y i = x i ++ (rd_T41 L i).f2)
  (h10 : ∀ i, i < n → (rd_T41 L i).f0 = 4 → hy i = false)
  (h11 : impl_CutActs.f k D L wh q = some (C, b)) (h12 : spec_CutActs.f k D L wh q = some (C, b)) (h13 : laws_sameDisk.f k C C = some true) :
    Calls Try.prog 11 #[.slice A0 l0.length c0] w fun e w' => e = .returned (.bool true) ∧ Below w.heap.size w w' := by
  have hu29 := Try.underlying29
  have hu41 := Try.underlying41
  have HR0 := Aside0.mk hr0; have HC0 := Aside0.mk hc0; have H1 := Aside0.mk h1; have H2 := Aside0.mk h2; have H3 := Aside0.mk h3; have H4 := Aside0.mk h4; have H5 := Aside0.mk h5; have HN := Aside0.mk hn; have HX0 := Aside0.mk hX0; have HXN := Aside0.mk hXn; have H6 := Aside0.mk h6; have H7 := Aside0.mk h7; have H8 := Aside0.mk h8; have H9 := Aside0.mk h9; have H10 := Aside0.mk h10; have H11 := Aside0.mk h11; have H12 := Aside0.mk h12; have H13 := Aside0.mk h13
  clear hr0 hc0 h1 h2 h3 h4 h5 hn hX0 hXn h6 h7 h8 h9 h10 h11 h12 h13
  go_enter Try.func11, Try.ntmps11
  go_wp2_with (first | (go_at_call 40; refine (laws_big.calls A0 c0 l0 false _ HR0.out HC0.out H1.out).mono ?_; rintro e_ w0 ⟨rfl, ⟨nd, rfl⟩⟩) | (go_at_call 46; refine (spec_DrawCutActs.calls k A0 c0 l0 D L wh q _ (Kd.C_drewN HR0.out nd) HC0.out H2.out).mono ?_; rintro e_ w1 ⟨v3, v4, v6, rfl, o3, o4, o6, hb⟩; have HO := Aside0.mk (And.intro o3 (And.intro o4 (And.intro o6 hb))); obtain ⟨A3, c3, rfl⟩ := Kd.R_slice o3; obtain ⟨A4, c4, rfl⟩ := Kd.R_slice o4; obtain ⟨A6, c6, rfl⟩ := Kd.R_slice o6; clear o3 o4 o6 hb) | ((with_reducible refine gate_dst (N := 33) rfl ?_); refine dk_stop ?_))
  obtain ⟨W1, hW1⟩ : ∃ W1, w1.alloc (.cells #[.slice A3 D.length c3] 29) = W1 := ⟨_, rfl⟩
  obtain ⟨b3, hb3⟩ : ∃ b3, w1.heap.size = b3 := ⟨_, rfl⟩
  have hk3 : W1.heap[b3]? = some (.cells #[.slice A3 D.length c3] 29 (0, 0)) := by rw [← hW1, ← hb3]; exact blk_new _ _
  have HA := Aside0.mk (show W1.heap[b3]? = some (.cells #[.slice A3 D.length c3] 29 (0, 0)) ∧ Kd.R k67 67 W1 w.heap.size (fun _ => True) (.slice A3 D.length c3) D ∧ (Kd.R k41 41 W1 w.heap.size (fun _ => True) (.slice A4 L.length c4) L ∧ Kd.R (Kd.int .i64) 3 W1 w.heap.size (fun _ => True) (.slice A6 q.length c6) q) ∧ Below w.heap.size w W1 from ⟨hk3, by rw [← hW1]; exact ⟨Kd.R_alloc HO.out.1 _, ⟨Kd.R_alloc HO.out.2.1 _, Kd.R_alloc HO.out.2.2.1 _⟩, below_alloc (below_step (pw_below_drewN (Below.refl _ _) nd) HO.out.2.2.2) _⟩⟩)
  have hc3_ := (blk_cell hk3 0).trans rfl
  have HE3 := Aside0.mk (show A3 = A3 ∧ D.length ≤ c3 ∧ L.length ≤ c4 ∧ q.length ≤ c6 from ⟨rfl, (Kd.R_reads' HO.out.1).2.1, (Kd.R_reads' HO.out.2.1).2.1, (Kd.R_reads' HO.out.2.2.1).2.1⟩)
  rw [hW1, hb3]
  clear hW1 hb3 hk3 HO
  refine dk_go ?_
  go_wp2_with (first | (go_at_call 30; refine (impl_DoActs.calls k A3 c3 D A4 c4 L R n _ (Kd.R_reads' HA.out.2.1).2.2 HE3.out.2.1 (Kd.R_reads' HA.out.2.2.1.1).2.2 HE3.out.2.2.1 H3.out).mono ?_; rintro e_ w2 ⟨v7, rfl, o7, hb⟩; have HO := Aside0.mk (And.intro o7 hb); obtain ⟨A7, c7, rfl⟩ := Kd.R_slice o7; clear o7 hb) | ((with_reducible refine gate_dst (N := 39) rfl ?_); refine dk_stop ?_))
  obtain ⟨W2, hW2⟩ : ∃ W2, w2.alloc (.cells #[.slice A7 R.length c7] 29) = W2 := ⟨_, rfl⟩
  obtain ⟨b7, hb7⟩ : ∃ b7, w2.heap.size = b7 := ⟨_, rfl⟩
  have hk7 : W2.heap[b7]? = some (.cells #[.slice A7 R.length c7] 29 (0, 0)) := by rw [← hW2, ← hb7]; exact blk_new _ _
  have hS : acS w b3 b7 (.slice A3 D.length c3) (.slice A7 R.length c7) (.slice A4 L.length c4) (.slice A6 q.length c6) D R L q W2 := by
    have hx2 : Below W1.heap.size W1 W2 := by rw [← hW2]; exact below_alloc HO.out.2 _
    exact ⟨⟨blk_below HA.out.1 hx2, hk7⟩, ⟨Kd.R_below HA.out.2.1 hx2, by rw [← hW2]; exact Kd.R_lower (Kd.R_alloc HO.out.1 _) (below_size HA.out.2.2.2)⟩, ⟨Kd.R_below HA.out.2.2.1.1 hx2, Kd.R_below HA.out.2.2.1.2 hx2⟩, below_step HA.out.2.2.2 hx2⟩
  have HS := Aside0.mk hS
  have HE7 := Aside0.mk (Kd.R_reads' hS.2.1.2).2.1
  have hc3_2 := (blk_cell hS.1.1 0).trans rfl
  rw [hW2, hb7]
  clear hW2 hb7 hk7 hc3_ HO HA hS
  refine dk_go ?_
  go_upto_region 6 with (first | (go_at_call 28; refine (spec_DoActs.calls k A3 c3 D A4 c4 L R n _ (Kd.R_reads' HS.out.2.1.1).2.2 HE3.out.2.1 (Kd.R_reads' HS.out.2.2.1.1).2.2 HE3.out.2.2.1 H4.out).mono ?_; rintro e_ w3 ⟨v9, rfl, o9, hb⟩; have HS3 := Aside0.mk (acS_below HS.out hb); have HO := Aside0.mk o9; obtain ⟨A9, c9, rfl⟩ := Kd.R_slice o9; clear o9 hb hc3_2))
  obtain ⟨W3, hW3⟩ : ∃ W3, w3.alloc (.cells #[.slice A9 R.length c9] 29) = W3 := ⟨_, rfl⟩
  obtain ⟨b9, hb9⟩ : ∃ b9, w3.heap.size = b9 := ⟨_, rfl⟩
  have hk9 : W3.heap[b9]? = some (.cells #[.slice A9 R.length c9] 29 (0, 0)) := by rw [← hW3, ← hb9]; exact blk_new _ _
  have hS : acS w b3 b7 (.slice A3 D.length c3) (.slice A7 R.length c7) (.slice A4 L.length c4) (.slice A6 q.length c6) D R L q W3 := by rw [← hW3]; exact acS_below HS3.out (below_alloc (Below.refl _ _) _)
  have HO9 := Aside0.mk (show Kd.R k67 67 W3 W2.heap.size (fun _ => True) (.slice A9 R.length c9) R by rw [← hW3]; exact Kd.R_alloc HO.out _)
  have HS := Aside0.mk hS
  have hc7_3 := (blk_cell hS.1.2 0).trans rfl
  have hc9_3 := (blk_cell hk9 0).trans rfl
  rw [hW3, hb9]
  clear hW3 hb9 hk9 HO HS3 hS
  go_upto_region 8 with (first | (go_at_call 44; refine (laws_sameDisk.calls k A7 c7 R A9 c9 R true _ (Kd.R_reads' HS.out.2.1.2).2.2 HE7.out (Kd.R_reads' HO9.out).2.2 (Kd.R_reads' HO9.out).2.1 H5.out).mono ?_; rintro e_ w4 ⟨rfl, hb⟩; have HS4 := Aside0.mk (acS_below HS.out hb); clear hb hc7_3 hc9_3 HO9))
  have hc3_4 := (blk_cell HS4.out.1.1 0).trans rfl
  go_wp2
  obtain ⟨W5, hW5⟩ : ∃ W5, w4.alloc (.cells #[.slice A3 D.length c3] 29) = W5 := ⟨_, rfl⟩
  obtain ⟨bb, hbb⟩ : ∃ bb, w4.heap.size = bb := ⟨_, rfl⟩
  have HNE := Aside0.mk (show b3 ≠ bb ∧ b7 ≠ bb ∧ w.heap.size ≤ bb from by
    have g1 := blk_lt HS4.out.1.1
    have g2 := blk_lt HS4.out.1.2
    have g3 := HS4.out.2.2.2.size
    omega)
  have HS5 := Aside0.mk (show acT w b3 b7 bb (.slice A3 D.length c3) (.slice A7 R.length c7) (.slice A4 L.length c4) (.slice A6 q.length c6) (.slice A3 (X 0).length c3) D R L q (X 0) W5 from by
    rw [HX0.out, ← hW5, ← hbb]
    exact ⟨acS_below HS4.out (below_alloc (Below.refl _ _) _), blk_new _ _, Kd.R_alloc HS4.out.2.1.1 _⟩)
  rw [hW5, hbb]
  clear hW5 hbb hc3_4 HS4 HS
  go_loopg [12] n (fun g v12 w' => ∃ (i : Nat) (A : Option Addr) (c : Nat), i + g = n ∧ v12 = .int .i64 (i : Int) ∧ Aside0 (acT w b3 b7 bb (.slice A3 D.length c3) (.slice A7 R.length c7) (.slice A4 L.length c4) (.slice A6 q.length c6) (.slice A (X i).length c) D R L q (X i) w'))
  case atStart => exact ⟨0, A3, c3, by omega, rfl, HS5⟩
  case round =>
    clear HS5
    rename_i w' _
    obtain ⟨i, A, c, hi, rfl, HS⟩ := hrel
    cases gk with
    | zero =>
      have hii : i = n := by omega
      subst hii
      have hlt2 : decide ((i : Int) < (i : Int)) = false := decide_eq_false (by omega)
      have hlt : ¬ ((i : Int) < (i : Int)) := by omega
      have hc3_5 := (blk_cell HS.out.1.1.1 0).trans rfl
      clear hi
      go_wp2_with (first | (go_at_call 39; refine (impl_CutActs.calls k A3 c3 D A4 c4 L wh A6 c6 q C b _ (Kd.R_reads' HS.out.1.2.1.1).2.2 HE3.out.2.1 (Kd.R_reads' HS.out.1.2.2.1.1).2.2 HE3.out.2.2.1 (Kd.R_reads' HS.out.1.2.2.1.2).2.2 HE3.out.2.2.2 H11.out).mono ?_; rintro e_ w5 ⟨v5, rfl, o5, hb⟩; obtain ⟨A5, c5, rfl⟩ := Kd.R_slice o5; have HO5 := Aside0.mk (Kd.R_lower o5 HS.out.1.2.2.2.size); have HT5 := Aside0.mk (acT_below HS.out hb); clear o5 hb hc3_5) | ((with_reducible refine gate_dst (N := 19) rfl ?_); refine box_event ?hg (N := 19) ?hd (cs := #[.slice none 0 0]) (t := 29) ?hr ?_; (case hd => rfl); (case hg => rfl); (case hr => first | (go_simp; done) | (go_simp; rfl)); intro g19 hg w6 hbox hb; have HT6 := Aside0.mk (acT_below HT5.out hb); have HO6 := Aside0.mk (Kd.R_below HO5.out hb); have HB6 := Aside0.mk hbox; have HG6 := Aside0.mk (show (b3 < g19 ∧ b7 < g19 ∧ bb < g19) ∧ w.heap.size ≤ g19 from by rw [hg]; exact ⟨acT_lt HT5.out, HT5.out.1.2.2.2.size⟩); have hcz6 := (blk_cell hbox 0).trans rfl; have hfz6 := blk_frozen hbox 0; clear hbox hb hg) | ((with_reducible refine gate_dst (N := 132) rfl ?_); refine dk_stop ?_))
      have HT7 := Aside0.mk (acT_set HT6.out HB6.out HG6.out.1 HG6.out.2 (.slice A5 C.length c5))
      have HB7 := Aside0.mk (show (w6.setCell ⟨g19, 0, none⟩ (.slice A5 C.length c5)).heap[g19]? = some (.cells #[.slice A5 C.length c5] 29 (0, 0)) from blk_put HB6.out 0 _ rfl)
      have HO7 := Aside0.mk (Kd.R_set HO6.out HB6.out (by decide) 0 (.slice A5 C.length c5))
      obtain ⟨W7, hW7⟩ : ∃ W7, w6.setCell ⟨g19, 0, none⟩ (.slice A5 C.length c5) = W7 := ⟨_, rfl⟩
      rw [hW7] at HT7 HB7 HO7 ⊢
      clear hW7 hcz6 hfz6 HT6 HO6 HB6 HT5 HO5
      have hc3_7 := (blk_cell HT7.out.1.1.1 0).trans rfl
      have H5X := Aside0.mk (show laws_sameDisk.f k (X i) R = some true by rw [HXN.out]; exact H5.out)
      refine dk_go ?_
      by_cases hz : i = 0
      · have hzb : ((i : Int) == 0) = true := beq_iff_eq.mpr (by omega)
        clear hz
        go_wp2_with (first | (go_at_call 38; refine (spec_CutActs.calls k A3 c3 D A4 c4 L wh A6 c6 q C b _ (Kd.R_reads' HT7.out.1.2.1.1).2.2 HE3.out.2.1 (Kd.R_reads' HT7.out.1.2.2.1.1).2.2 HE3.out.2.2.1 (Kd.R_reads' HT7.out.1.2.2.1.2).2.2 HE3.out.2.2.2 H12.out).mono ?_; rintro e_ w8 ⟨v8, rfl, o8, hb⟩; obtain ⟨A8, c8, rfl⟩ := Kd.R_slice o8; have HP8 := Aside0.mk (Kd.R_lower o8 HT7.out.1.2.2.2.size); have HT8 := Aside0.mk (acT_below HT7.out hb); have HO8 := Aside0.mk (Kd.R_below HO7.out hb); have HB8 := Aside0.mk (blk_below HB7.out hb); clear o8 hb hc3_7) | ((with_reducible refine gate_dst (N := 21) rfl ?_); refine box_event ?hg (N := 21) ?hd (cs := #[.slice none 0 0]) (t := 29) ?hr ?_; (case hd => rfl); (case hg => rfl); (case hr => first | (go_simp; done) | (go_simp; rfl)); intro g21 hg w9 hbox hb; have HT9 := Aside0.mk (acT_below HT8.out hb); have HO9 := Aside0.mk (Kd.R_below HO8.out hb); have HP9 := Aside0.mk (Kd.R_below HP8.out hb); have HB9 := Aside0.mk (blk_below HB8.out hb); have HC9 := Aside0.mk hbox; have hlt8 := blk_lt HB8.out; have hlts := acT_lt HT8.out; have n1 : g21 ≠ g19 := (by omega); have n2 : g19 ≠ g21 := (by omega); have n3 : g21 ≠ bb := (by omega); have n4 : bb ≠ g21 := (by omega); have n5 : g21 ≠ b7 := (by omega); have n6 : b7 ≠ g21 := (by omega); have hd1 := (blk_cell hbox 0).trans rfl; have hd2 := blk_frozen hbox 0; have hd3 := (blk_cell HB9.out 0).trans rfl; have HG9 := Aside0.mk (show (b3 < g21 ∧ b7 < g21 ∧ bb < g21) ∧ w.heap.size ≤ g21 from (by rw [hg]; exact ⟨hlts, HT8.out.1.2.2.2.size⟩)); clear hbox hb hg hlt8 hlts) | (go_at_call 44; (with_reducible refine (laws_sameDisk.calls k A5 c5 C A8 c8 C true _ ?s1 ?s2 ?s3 ?s4 H13.out).mono ?_); (case s1 => exact (Kd.R_reads' (Kd.R_set HO9.out HC9.out (by decide) 0 _)).2.2); (case s2 => exact (Kd.R_reads' HO9.out).2.1); (case s3 => exact (Kd.R_reads' (Kd.R_set HP9.out HC9.out (by decide) 0 _)).2.2); (case s4 => exact (Kd.R_reads' HP9.out).2.1); rintro e_ w10 ⟨rfl, hb⟩; have HT10 := Aside0.mk (acT_below (acT_set HT9.out HC9.out HG9.out.1 HG9.out.2 _) hb); have hca := (blk_cell HT10.out.2.1 0).trans rfl; have hcb := (blk_cell HT10.out.1.1.2 0).trans rfl; clear hb n1 n2 n3 n4 n5 n6 hd1 hd2 hd3) | (go_at_call 44; (with_reducible refine (laws_sameDisk.calls k A c (X i) A7 c7 R true _ ?s1 ?s2 ?s3 ?s4 H5X.out).mono ?_); (case s1 => exact (Kd.R_reads' HT10.out.2.2).2.2); (case s2 => exact (Kd.R_reads' HT10.out.2.2).2.1); (case s3 => exact (Kd.R_reads' HT10.out.1.2.1.2).2.2); (case s4 => exact HE7.out); rintro e_ w11 ⟨rfl, hb⟩; have HT11 := Aside0.mk (acT_below HT10.out hb); clear hb hca hcb))
        go_ret
        exact ⟨rfl, HT10.out.1.2.2.2⟩
      · have hzb : ((i : Int) == 0) = false := beq_eq_false_iff_ne.mpr (by omega)
        have hz2 : ¬ (i : Int) = 0 := by omega
        go_wp2_with (first | (go_at_call 38; refine (spec_CutActs.calls k A3 c3 D A4 c4 L wh A6 c6 q C b _ (Kd.R_reads' HT7.out.1.2.1.1).2.2 HE3.out.2.1 (Kd.R_reads' HT7.out.1.2.2.1.1).2.2 HE3.out.2.2.1 (Kd.R_reads' HT7.out.1.2.2.1.2).2.2 HE3.out.2.2.2 H12.out).mono ?_; rintro e_ w8 ⟨v8, rfl, o8, hb⟩; obtain ⟨A8, c8, rfl⟩ := Kd.R_slice o8; have HP8 := Aside0.mk (Kd.R_lower o8 HT7.out.1.2.2.2.size); have HT8 := Aside0.mk (acT_below HT7.out hb); have HO8 := Aside0.mk (Kd.R_below HO7.out hb); have HB8 := Aside0.mk (blk_below HB7.out hb); clear o8 hb hc3_7) | ((with_reducible refine gate_dst (N := 21) rfl ?_); refine box_event ?hg (N := 21) ?hd (cs := #[.slice none 0 0]) (t := 29) ?hr ?_; (case hd => rfl); (case hg => rfl); (case hr => first | (go_simp; done) | (go_simp; rfl)); intro g21 hg w9 hbox hb; have HT9 := Aside0.mk (acT_below HT8.out hb); have HO9 := Aside0.mk (Kd.R_below HO8.out hb); have HP9 := Aside0.mk (Kd.R_below HP8.out hb); have HB9 := Aside0.mk (blk_below HB8.out hb); have HC9 := Aside0.mk hbox; have hlt8 := blk_lt HB8.out; have hlts := acT_lt HT8.out; have n1 : g21 ≠ g19 := (by omega); have n2 : g19 ≠ g21 := (by omega); have n3 : g21 ≠ bb := (by omega); have n4 : bb ≠ g21 := (by omega); have n5 : g21 ≠ b7 := (by omega); have n6 : b7 ≠ g21 := (by omega); have hd1 := (blk_cell hbox 0).trans rfl; have hd2 := blk_frozen hbox 0; have hd3 := (blk_cell HB9.out 0).trans rfl; have HG9 := Aside0.mk (show (b3 < g21 ∧ b7 < g21 ∧ bb < g21) ∧ w.heap.size ≤ g21 from (by rw [hg]; exact ⟨hlts, HT8.out.1.2.2.2.size⟩)); clear hbox hb hg hlt8 hlts) | (go_at_call 44; (with_reducible refine (laws_sameDisk.calls k A5 c5 C A8 c8 C true _ ?s1 ?s2 ?s3 ?s4 H13.out).mono ?_); (case s1 => exact (Kd.R_reads' (Kd.R_set HO9.out HC9.out (by decide) 0 _)).2.2); (case s2 => exact (Kd.R_reads' HO9.out).2.1); (case s3 => exact (Kd.R_reads' (Kd.R_set HP9.out HC9.out (by decide) 0 _)).2.2); (case s4 => exact (Kd.R_reads' HP9.out).2.1); rintro e_ w10 ⟨rfl, hb⟩; have HT10 := Aside0.mk (acT_below (acT_set HT9.out HC9.out HG9.out.1 HG9.out.2 _) hb); have hca := (blk_cell HT10.out.2.1 0).trans rfl; have hcb := (blk_cell HT10.out.1.1.2 0).trans rfl; clear hb n1 n2 n3 n4 n5 n6 hd1 hd2 hd3) | (go_at_call 44; (with_reducible refine (laws_sameDisk.calls k A c (X i) A7 c7 R true _ ?s1 ?s2 ?s3 ?s4 H5X.out).mono ?_); (case s1 => exact (Kd.R_reads' HT10.out.2.2).2.2); (case s2 => exact (Kd.R_reads' HT10.out.2.2).2.1); (case s3 => exact (Kd.R_reads' HT10.out.1.2.1.2).2.2); (case s4 => exact HE7.out); rintro e_ w11 ⟨rfl, hb⟩; have HT11 := Aside0.mk (acT_below HT10.out hb); clear hb hca hcb))
        go_ret
        exact ⟨rfl, HT11.out.1.2.2.2⟩
    | succ kk =>
      have hlt : (i : Int) < (n : Int) := by omega
      have hlt2 : decide ((i : Int) < (n : Int)) = true := decide_eq_true hlt
      have hi0 : (0 : Int) ≤ (i : Int) := Int.natCast_nonneg i
      have hil : (i : Int) < (L.length : Int) := by have := HN.out; omega
      have hin : i < n := by omega
      obtain ⟨ad, hA4, f0, f1, f2, f3⟩ := at_T41 (Kd.R_reads' HS.out.1.2.2.1.1).2.2 (i : Int) hi0 hil
      subst hA4
      have g6 := H6.out i hin; have g7 := H7.out i hin; have g8 := H8.out i hin; have g9 := H9.out i hin; have g10 := H10.out i hin
      generalize rd_T41 L (i : Int) = z at f0 f1 f2 f3 g6 g7 g8 g9 g10
      obtain ⟨z0, z1, z2, z3⟩ := z
      simp only [Int.toNat_natCast] at f0 f1 f2 f3 g6 g7 g8 g9 g10
      have G6 := Aside0.mk g6; have G7 := Aside0.mk g7; have G8 := Aside0.mk g8; have G9 := Aside0.mk g9; have G10 := Aside0.mk g10; have HI := Aside0.mk hi
      have hcb := (blk_cell HS.out.2.1 0).trans rfl
      have HALL := Aside0.mk (show ∀ W, Below wr.heap.size wr W → W.cell? ⟨bb, 0, none⟩ = some (.slice A (X i).length c) ∧ W.cell? (ad.add (i * 4)) = some (.int .i64 z0) ∧ W.cell? ⟨(ad.add (i * 4)).block, (ad.add (i * 4)).off + 1, none⟩ = some (.string z1) ∧ W.cell? ⟨(ad.add (i * 4)).block, (ad.add (i * 4)).off + 2, none⟩ = some (.string z2) ∧ W.cell? ⟨(ad.add (i * 4)).block, (ad.add (i * 4)).off + 3, none⟩ = some (.string z3) ∧ Aside0 (Below wr.heap.size wr W) from fun W hb => ⟨(hb.cell (World.block_lt_of_cell? _ _ hcb)).trans hcb, (hb.cell (World.block_lt_of_cell? _ _ f0)).trans f0, (hb.cell (World.block_lt_of_cell? _ _ f1)).trans f1, (hb.cell (World.block_lt_of_cell? _ _ f2)).trans f2, (hb.cell (World.block_lt_of_cell? _ _ f3)).trans f3, ⟨hb⟩⟩)
      have hp0 := eq_true hi0
      have hq0 := eq_true hil
      clear g6 g7 g8 g9 g10 hi hcb f0 f1 f2 f3
      go_wp2
      go_region_held3 (fun w' => w'.cell? ⟨bb, 0, none⟩ = some (.slice A (X i).length c) ∧ w'.cell? (ad.add (i * 4)) = some (.int .i64 z0) ∧ w'.cell? ⟨(ad.add (i * 4)).block, (ad.add (i * 4)).off + 1, none⟩ = some (.string z1) ∧ w'.cell? ⟨(ad.add (i * 4)).block, (ad.add (i * 4)).off + 2, none⟩ = some (.string z2) ∧ w'.cell? ⟨(ad.add (i * 4)).block, (ad.add (i * 4)).off + 3, none⟩ = some (.string z3) ∧ Aside0 (Below wr.heap.size wr w')) (first | exact HALL.out _ (below_drew1 (Below.refl _ _)) | exact HALL.out _ HB1.out | exact HALL.out _ (below_alloc (acQ_ (by assumption)) _) | exact HALL.out _ (below_alloc HB1.out _) | exact HALL.out _ (below_set HB1.out (Nat.le_refl _)) | exact HALL.out _ (below_set (below_alloc HB1.out _) HB1.out.size)) (first | (go_at_call 24; refine (impl_DoAct.calls A c (X i) z0 z1 z2 z3 (X (i + 1)) true _ ?s1 (Kd.R_reads' HS.out.2.2).2.1 G6.out).mono ?_; (case s1 => exact Kd.C_below (Kd.R_reads' HS.out.2.2).2.2 (acQ_ (by assumption))); rintro e_ w1 ⟨v13, rfl, o13, hb⟩; obtain ⟨A13, c13, rfl⟩ := Kd.R_slice o13; have HB1 := Aside0.mk (below_step (show Below wr.heap.size wr _ from acQ_ (by assumption)) hb); have HO13 := Aside0.mk (Kd.R_lower o13 (below_size (show Below wr.heap.size wr _ from acQ_ (by assumption)))); (try (have hbx := Aside0.mk (blk_below (show (wr.drew.alloc (.cells #[.slice none 0 0] 29)).heap[wr.heap.size]? = some (.cells #[.slice none 0 0] 29 (0, 0)) from blk_new _ _) hb); have hcx := (blk_cell hbx.out 0).trans rfl; have hfx := blk_frozen hbx.out 0)); clear o13 hb))
      all_goals first
        | (obtain ⟨W2, hW2⟩ : ∃ W2, w1.setCell ⟨wr.heap.size, 0, none⟩ (.slice A13 (X (i + 1)).length c13) = W2 := ⟨_, rfl⟩
           obtain ⟨b13, hb13⟩ : ∃ b, wr.heap.size = b := ⟨_, rfl⟩
           have HW := Aside0.mk (show Below wr.heap.size wr W2 ∧ W2.heap[b13]? = some (.cells #[.slice A13 (X (i + 1)).length c13] 29 (0, 0)) ∧ Kd.R k67 67 W2 wr.heap.size (fun _ => True) (.slice A13 (X (i + 1)).length c13) (X (i + 1)) ∧ wr.heap.size ≤ b13 from by
             rw [← hW2, ← hb13]
             exact ⟨below_set HB1.out (Nat.le_refl _), blk_put hbx.out 0 _ rfl, Kd.R_set HO13.out hbx.out (by decide) 0 _, Nat.le_refl _⟩)
           rw [hW2, hb13]
           clear hcx hfx hbx hW2 hb13)
        | (obtain ⟨W2, hW2⟩ : ∃ W2, w1.alloc (.cells #[.slice A13 (X (i + 1)).length c13] 29) = W2 := ⟨_, rfl⟩
           obtain ⟨b13, hb13⟩ : ∃ b, w1.heap.size = b := ⟨_, rfl⟩
           have HW := Aside0.mk (show Below wr.heap.size wr W2 ∧ W2.heap[b13]? = some (.cells #[.slice A13 (X (i + 1)).length c13] 29 (0, 0)) ∧ Kd.R k67 67 W2 wr.heap.size (fun _ => True) (.slice A13 (X (i + 1)).length c13) (X (i + 1)) ∧ wr.heap.size ≤ b13 from by
             rw [← hW2, ← hb13]
             exact ⟨below_alloc HB1.out _, blk_new _ _, Kd.R_alloc HO13.out _, HB1.out.size⟩)
           rw [hW2, hb13]
           clear hW2 hb13)
      all_goals
        rename_i hh_
        clear hh_ HB1 HO13
        have hcz := (blk_cell HW.out.2.1 0).trans rfl
        have HALL2 := Aside0.mk (show ∀ W, Below W2.heap.size W2 W → W.cell? ⟨bb, 0, none⟩ = some (.slice A (X i).length c) ∧ W.cell? (ad.add (i * 4)) = some (.int .i64 z0) ∧ W.cell? ⟨(ad.add (i * 4)).block, (ad.add (i * 4)).off + 1, none⟩ = some (.string z1) ∧ W.cell? ⟨(ad.add (i * 4)).block, (ad.add (i * 4)).off + 2, none⟩ = some (.string z2) ∧ W.cell? ⟨b13, 0, none⟩ = some (.slice A13 (X (i + 1)).length c13) ∧ Aside0 (Below W2.heap.size W2 W) from fun W hb => by
          obtain ⟨e0, e1, e2, e3, -, -⟩ := HALL.out W (below_step HW.out.1 hb)
          exact ⟨e0, e1, e2, e3, (hb.cell (World.block_lt_of_cell? _ _ hcz)).trans hcz, ⟨hb⟩⟩)
        clear hcz
        go_wp2
        go_region_held3 (fun w' => w'.cell? ⟨bb, 0, none⟩ = some (.slice A (X i).length c) ∧ w'.cell? (ad.add (i * 4)) = some (.int .i64 z0) ∧ w'.cell? ⟨(ad.add (i * 4)).block, (ad.add (i * 4)).off + 1, none⟩ = some (.string z1) ∧ w'.cell? ⟨(ad.add (i * 4)).block, (ad.add (i * 4)).off + 2, none⟩ = some (.string z2) ∧ w'.cell? ⟨b13, 0, none⟩ = some (.slice A13 (X (i + 1)).length c13) ∧ Aside0 (Below W2.heap.size W2 w')) (first | exact HALL2.out _ (below_drew1 (Below.refl _ _)) | exact HALL2.out _ HB2.out) (first | (go_at_call 18; refine (impl_FileAt.calls A c (X i) z1 (x i) (hx i) _ ?s1 (Kd.R_reads' HS.out.2.2).2.1 G7.out).mono ?_; (case s1 => exact Kd.C_below (Kd.R_reads' HS.out.2.2).2.2 (below_step HW.out.1 (acQ_ (by assumption)))); rintro e_ w2 ⟨rfl, hb⟩; have HB2 := Aside0.mk (below_step (show Below W2.heap.size W2 _ from acQ_ (by assumption)) hb); clear hb))
        rename_i hh_
        clear hh_
        go_wp2
        go_region_held3 (fun w' => w'.cell? ⟨bb, 0, none⟩ = some (.slice A (X i).length c) ∧ w'.cell? (ad.add (i * 4)) = some (.int .i64 z0) ∧ w'.cell? ⟨(ad.add (i * 4)).block, (ad.add (i * 4)).off + 1, none⟩ = some (.string z1) ∧ w'.cell? ⟨(ad.add (i * 4)).block, (ad.add (i * 4)).off + 2, none⟩ = some (.string z2) ∧ w'.cell? ⟨b13, 0, none⟩ = some (.slice A13 (X (i + 1)).length c13) ∧ Aside0 (Below W2.heap.size W2 w')) (first | exact HALL2.out _ (below_drew1 HB2.out) | exact HALL2.out _ HB3.out) (first | (go_at_call 18; refine (impl_FileAt.calls A13 c13 (X (i + 1)) z1 (y i) (hy i) _ ?s1 (Kd.R_reads' HW.out.2.2.1).2.1 G8.out).mono ?_; (case s1 => exact Kd.C_below (Kd.R_reads' HW.out.2.2.1).2.2 (acQ_ (by assumption))); rintro e_ w3 ⟨rfl, hb⟩; have HB3 := Aside0.mk (below_step (show Below W2.heap.size W2 _ from acQ_ (by assumption)) hb); clear hb))
        rename_i hh_
        clear hh_
        obtain ⟨e0, e1, -, e2, e3, -⟩ := HALL2.out _ HB3.out
        have HQ := Aside0.mk (show acT w b3 b7 bb (.slice A3 D.length c3) (.slice A7 R.length c7) (.slice (some ad) L.length c4) (.slice A6 q.length c6) (.slice A (X i).length c) D R L q (X i) w3 from acT_below HS.out (below_step HW.out.1 HB3.out))
        have hfb := blk_frozen HQ.out.2.1 0
        have HWI := Aside0.mk (show wrap64 ((i : Int) + 1) = ((i + 1 : Nat) : Int) by have := HN.out; unfold wrap64; have := Kd.C_max (Kd.R_reads' HS.out.1.2.2.1.1).2.2; omega)
        by_cases k1 : z0 = 1
        · obtain ⟨r1, r2, r3⟩ := G9.out k1
          subst k1
          have hs : (y i).toList = (x i ++ z2).toList := by rw [r3]
          have hs1 : ((y i).toList == (x i ++ z2).toList) = true := by rw [hs]; exact beq_self_eq_true _
          have hs2 : ((y i).toList != (x i ++ z2).toList) = false := by rw [hs]; exact bne_self_eq_false _
          clear hs r3
          rw [r1]
          go_wp2
          go_roundg kk
          case measure => have := HI.out; omega
          case rel => exact ⟨i + 1, A13, c13, by have := HI.out; omega, by first | rfl | (rw [HWI.out]), ⟨acS_set HQ.out.1 HQ.out.2.1 HNE.out.1 HNE.out.2.1 HNE.out.2.2 _, blk_put HQ.out.2.1 0 _ rfl, Kd.R_set (Kd.R_lower (Kd.R_below HW.out.2.2.1 HB3.out) HS.out.1.2.2.2.size) HQ.out.2.1 (by decide) 0 _⟩⟩
        · by_cases k4 : z0 = 4
          · have r4 := G10.out k4
            subst k4
            rw [r4]
            go_wp2
            go_roundg kk
            case measure => have := HI.out; omega
            case rel => exact ⟨i + 1, A13, c13, by have := HI.out; omega, by first | rfl | (rw [HWI.out]), ⟨acS_set HQ.out.1 HQ.out.2.1 HNE.out.1 HNE.out.2.1 HNE.out.2.2 _, blk_put HQ.out.2.1 0 _ rfl, Kd.R_set (Kd.R_lower (Kd.R_below HW.out.2.2.1 HB3.out) HS.out.1.2.2.2.size) HQ.out.2.1 (by decide) 0 _⟩⟩
          · have k1b : (z0 == 1) = false := beq_eq_false_iff_ne.mpr k1
            have k4b : (z0 == 4) = false := beq_eq_false_iff_ne.mpr k4
            go_wp2
            go_roundg kk
            case measure => have := HI.out; omega
            case rel => exact ⟨i + 1, A13, c13, by have := HI.out; omega, by first | rfl | (rw [HWI.out]), ⟨acS_set HQ.out.1 HQ.out.2.1 HNE.out.1 HNE.out.2.1 HNE.out.2.2 _, blk_put HQ.out.2.1 0 _ rfl, Kd.R_set (Kd.R_lower (Kd.R_below HW.out.2.2.1 HB3.out) HS.out.1.2.2.2.size) HQ.out.2.1 (by decide) 0 _⟩⟩
set_option maxHeartbeats 8000000 in
set_option maxRecDepth 100000 in
theorem acts_big (A0 : Option Addr) (c0 : Nat) (l0 : List Int) (w : World) (hr0 : Kd.C (Kd.int .u8) w A0 l0.length l0) (hc0 : l0.length ≤ c0) (h : laws_big.f l0 = some true) :
    Calls Try.prog 11 #[.slice A0 l0.length c0] w fun e w' => e = .returned (.bool true) ∧ Below w.heap.size w w' := by
  have HR0 := Aside0.mk hr0; have HC0 := Aside0.mk hc0; have H1 := Aside0.mk h
  clear hr0 hc0 h
  go_enter Try.func11, Try.ntmps11
  go_wp2_with (first | (go_at_call 40; refine (laws_big.calls A0 c0 l0 true _ HR0.out HC0.out H1.out).mono ?_; rintro e_ w0 ⟨rfl, ⟨nd, rfl⟩⟩))
  go_ret
  exact ⟨rfl, pw_below_drewN (Below.refl _ _) nd⟩
/-- What the law's walk wants to be told of the drawn disk and the drawn acts. -/
def laws_FnActs.Ok (k : Nat) (l0 : List Int) : Prop := laws_big.f l0 = some true ∨ (laws_big.f l0 = some false ∧ ∃ (D R C : List S67) (L : List S41) (wh : Int) (q : List Int) (n : Nat) (b : Bool) (X : Nat → List S67) (x y : Nat → ByteArray) (hx hy : Nat → Bool),
  spec_DrawCutActs.f k l0 = some (D, L, wh, q) ∧ impl_DoActs.f k D L = some (R, (n : Int)) ∧ spec_DoActs.f k D L = some (R, (n : Int)) ∧ laws_sameDisk.f k R R = some true ∧ n ≤ L.length ∧ X 0 = D ∧ X n = R ∧
  (∀ i, i < n → impl_DoAct.f (X i) (rd_T41 L i).f0 (rd_T41 L i).f1 (rd_T41 L i).f2 (rd_T41 L i).f3 = some (X (i + 1), true)) ∧
  (∀ i, i < n → impl_FileAt.f (X i) (rd_T41 L i).f1 = some (x i, hx i)) ∧
  (∀ i, i < n → impl_FileAt.f (X (i + 1)) (rd_T41 L i).f1 = some (y i, hy i)) ∧
  (∀ i, i < n → (rd_T41 L i).f0 = 1 → hy i = true ∧ (x i).size + (rd_T41 L i).f2.size ≤ 9223372036854775807 ∧ y i = x i ++ (rd_T41 L i).f2) ∧
  (∀ i, i < n → (rd_T41 L i).f0 = 4 → hy i = false) ∧
  impl_CutActs.f k D L wh q = some (C, b) ∧ spec_CutActs.f k D L wh q = some (C, b) ∧ laws_sameDisk.f k C C = some true)
def laws_FnActs.Pure : Prop := ∀ (l0 : List Int), l0.length ≤ maxLen → l0.length * 1 ≤ 140737488351232 → (∀ x ∈ l0, (Lit.int .u8 x).wf = true) → ∃ k, laws_FnActs.Ok k l0
theorem laws_FnActs.walk (P : laws_FnActs.Pure) (a0 : Option Addr) (len0 cap0 : Nat) (z0 : List Int) (w : World) (w0 : (a0 = none ∧ len0 = 0 ∧ cap0 = 0 ∧ z0 = []) ∨ ∃ x, a0 = some x ∧ len0 ≤ cap0 ∧ cap0 ≤ maxLen ∧ z0.length = cap0 ∧ (∀ i, i < z0.length → w.cell? (x.add i) = some (.int .u8 (z0.getD i 0))) ∧ ∀ n ∈ z0, (Lit.int .u8 n).wf = true) (y0 : len0 * 1 ≤ 140737488351232) :
    Calls Try.prog 11 #[.slice a0 len0 cap0] w fun e w' => e = .returned (.bool true) ∧ Below w.heap.size w w' := by
  obtain ⟨l0, rfl, hr0, hm0, hw0, hc0⟩ := ReadsInt.ofRowC w0
  obtain ⟨k, h⟩ := P l0 hm0 y0 hw0
  have hr := Kd.C_of_reads (d := (0 : Int)) (h1 := fun _ => rfl) hr0
  rcases h with h | ⟨h1, D, R, C, L, wh, q, n, b, X, x, y, hx, hy, h2, h3, h4, h5, hn, hX0, hXn, h6, h7, h8, h9, h10, h11, h12, h13⟩
  · exact acts_big a0 cap0 l0 w hr hc0 h
  · exact acts_law k a0 cap0 l0 w hr hc0 D R C L wh q n b X x y hx hy h1 h2 h3 h4 h5 hn hX0 hXn h6 h7 h8 h9 h10 h11 h12 h13
end Go.Proofs.Yteghgeanbglmoaa.PFnActs
