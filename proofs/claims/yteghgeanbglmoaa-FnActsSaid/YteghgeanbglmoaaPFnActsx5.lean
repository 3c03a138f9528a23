-- a text of this session's program wip/hyb.py (over the kit's print), out of the translation
import Derived.Test.YteghgeanbglmoaaPFnActsx0
import Derived.Test.YteghgeanbglmoaaDkFnActsZ
import Derived.Test.YteghgeanbglmoaaDkFnActsL
import Derived.Test.YteghgeanbglmoaaDkFnActsZ
import Derived.Test.YteghgeanbglmoaaPFnActsx2
import Derived.Test.YteghgeanbglmoaaPFnActsx4
namespace Go.Proofs.Yteghgeanbglmoaa.PFnActs
open Go.RowKit Go.Proofs.YteghgeanbglmoaaW.PrintWords Go.Proofs.YteghgeanbglmoaaW.PrintLast Go.Proofs.YteghgeanbglmoaaW.PrintMore
attribute [local go_sem] max2_int min2_int max_two min_two max_three min_three max_four min_four   -- for this text's walks alone
set_option linter.unusedVariables false
set_option linter.unusedSimpArgs false

/-! ### spec_l01In: function 49 -/
def spec_l01In.f (a0 : Int) (a1 : Int) (a2 : Int) : Option (Bool) := if a0 ≥ a1 then (some (decide (a0 ≤ a2))) else (some false)
set_option maxHeartbeats 8000000 in
set_option maxRecDepth 100000 in
theorem spec_l01In.calls (a0 : Int) (a1 : Int) (a2 : Int) (r : Bool) (w : World) (h : spec_l01In.f a0 a1 a2 = some r) :
  Calls Try.prog 49 #[.int .i64 a0, .int .i64 a1, .int .i64 a2] w fun e w' => e = .returned (.bool r) ∧ Drawn0 w w' := by
 have H : (if a0 ≥ a1 then (some (decide (a0 ≤ a2))) else (some false)) = some r := h
 clear h
 by_cases c4 : a0 ≥ a1
 ·rw [if_pos c4] at H
  have c4b0 : decide (a1 ≤ a0) = true := decide_eq_true c4
  clear c4
  obtain rfl := Option.some.inj H
  go_enter Try.func49, Try.ntmps49
  go_wp2
  go_ret
  exact ⟨by first | rfl | (simp; done) | (simp [*]; done), by repeat (first | exact Drawn0.refl _ | apply Drawn0.step)⟩
 ·rw [if_neg c4] at H
  have c4b0 : decide (a1 ≤ a0) = false := decide_eq_false c4
  clear c4
  obtain rfl := Option.some.inj H
  go_enter Try.func49, Try.ntmps49
  go_wp2
  go_ret
  exact ⟨by first | rfl | (simp; done) | (simp [*]; done), by repeat (first | exact Drawn0.refl _ | apply Drawn0.step)⟩

/-! ### spec_CutActs: function 38 -/
def spec_CutActs.f (k : Nat) (l0_0 : List (S67)) (l1 : List (S41)) (a2 : Int) (l3 : List Int) : Option ((List (S67)) × Bool) := (spec_l01In.f a2 0 (l1.length : Int)).bind fun t153 => (if t153 = true then (if 0 ≤ a2 then (if a2 ≤ (l1.length : Int) then ((spec_DoActs.f k l0_0 (l1.take (a2 : Int).toNat)).bind fun bt158 => (if bt158.2 < a2 then (some (([] : List (S67)), false)) else ((spec_LoseDisk.f k bt158.1 l3).bind fun bt163 => (some (bt163.1, bt163.2))))) else (none)) else (none)) else (some (([] : List (S67)), false)))
theorem spec_CutActs.mono : ∀ a0 a1 a2 a3 k, LeO (spec_CutActs.f k a0 a1 a2 a3) (spec_CutActs.f (k + 1) a0 a1 a2 a3) := by
 intro a0 a1 a2 a3 k
 unfold spec_CutActs.f
 repeat' first
   | (with_reducible exact spec_DoActs.mono _ _ _)
   | (with_reducible exact spec_LoseDisk.mono _ _ _)
   | (with_reducible exact LeO.refl _)
   | (with_reducible exact LeO.none _)
   | (with_reducible refine LeO.ite ?_ ?_)
   | (with_reducible refine LeO.bind ?_ (fun _ => ?_))
   | exact spec_DoActs.mono _ _ _
   | exact spec_LoseDisk.mono _ _ _
   | exact LeO.none _
   | refine LeO.ite ?_ ?_
   | refine LeO.bind ?_ (fun _ => ?_)
set_option maxHeartbeats 8000000 in
set_option maxRecDepth 100000 in
theorem spec_CutActs_no (A0_0 : Option Addr) (c0_0 : Nat) (l0_0 : List (S67)) (A1 : Option Addr) (c1 n1 : Nat) (a2 : Int) (A3 : Option Addr) (c3 n3 : Nat) (w : World) (h : spec_l01In.f a2 0 (n1 : Int) = some false) :
  Calls Try.prog 38 #[.agg #[.slice A0_0 l0_0.length c0_0], .slice A1 n1 c1, .int .i64 a2, .slice A3 n3 c3] w fun e w' => ∃ v0_ : Value, e = .returned (.tuple #[.agg #[v0_], .bool false]) ∧ Kd.R k67 67 w' w.heap.size (fun _ => True) v0_ [] ∧ Below w.heap.size w w' := by
  have A2 := Aside0.mk h
  clear h
  obtain ⟨W0, hW0⟩ : ∃ W0, (w.alloc (.cells #[.slice A0_0 l0_0.length c0_0] 29)).alloc (.cells #[.slice none 0 0] 29) = W0 := ⟨_, rfl⟩
  have HF := Aside0.mk (show ∀ W, Below W0.heap.size W0 W → W.heap[w.heap.size]? = some (.cells #[.slice A0_0 l0_0.length c0_0] 29 (0, 0)) ∧ W.heap[w.heap.size + 1]? = some (.cells #[.slice none 0 0] 29 (0, 0)) ∧ Below w.heap.size w W ∧ w.heap.size + 2 ≤ W.heap.size from fun W h => by
    rw [← hW0, dk_sz, dk_sz] at h
    exact ⟨(h.block _ (by omega)).trans (blk_alloc (blk_new _ _) _), (h.block _ (by omega)).trans (dk_new2 w _ _), (below_alloc (below_alloc (Below.refl _ _) _) _).trans (h.mono (by omega)), by have := h.size; rw [dk_sz, dk_sz] at this; omega⟩)
  go_enter Try.func38, Try.ntmps38
  go_wp2_with (first | (go_at_call 49; refine (spec_l01In.calls a2 0 _ false _ A2.out).mono ?_; rintro e_ w1 ⟨rfl, ⟨nd, rfl⟩⟩; have HQ := Aside0.mk (HF.out _ (pw_below_drewN (Below.refl _ _) nd)); have hcr := (blk_cell HQ.out.2.1 0).trans rfl; have hfr := blk_frozen HQ.out.2.1 0))
  (try simp only [Exit.inBlock, Exit.then])
  exact bodyPost_ret (ret29 (x := .slice none 0 0) (y := .bool false) rfl _ _ (blk_put HQ.out.2.1 0 _ rfl) rfl rfl) rfl ⟨_, rfl, Kd.R_nil _ _ _ _ _, below_set HQ.out.2.2.1 (by omega)⟩
set_option maxHeartbeats 8000000 in
set_option maxRecDepth 100000 in
theorem spec_CutActs_yes (k : Nat) (A0_0 : Option Addr) (c0_0 : Nat) (l0_0 : List (S67)) (A1 : Option Addr) (c1 : Nat) (l1 L : List (S41)) (A3 : Option Addr) (c3 : Nat) (l3 : List Int) (R r1 : List (S67)) (n : Int) (r2 : Bool) (w : World) (hr0_0 : Kd.C k67 w A0_0 l0_0.length l0_0) (hc0_0 : l0_0.length ≤ c0_0) (hrL : Kd.C k41 w A1 L.length L) (hc1 : l1.length ≤ c1) (hLl : L.length ≤ l1.length) (hr3 : Kd.C (Kd.int .i64) w A3 l3.length l3) (hc3 : l3.length ≤ c3) (h1 : spec_l01In.f (L.length : Int) 0 (l1.length : Int) = some true) (h2 : spec_DoActs.f k l0_0 L = some (R, n)) (h3 : (n < (L.length : Int) ∧ r1 = [] ∧ r2 = false) ∨ (¬ n < (L.length : Int) ∧ spec_LoseDisk.f k R l3 = some (r1, r2))) :
  Calls Try.prog 38 #[.agg #[.slice A0_0 l0_0.length c0_0], .slice A1 l1.length c1, .int .i64 (L.length : Int), .slice A3 l3.length c3] w fun e w' => ∃ v0_ : Value, e = .returned (.tuple #[.agg #[v0_], .bool r2]) ∧ Kd.R k67 67 w' w.heap.size (fun _ => True) v0_ r1 ∧ Below w.heap.size w w' := by
  have hu29 := Try.underlying29
  have HR0 := Aside0.mk hr0_0; have HC0 := Aside0.mk hc0_0; have HRL := Aside0.mk hrL; have HCL := Aside0.mk (Nat.le_trans hLl hc1); have HR3 := Aside0.mk hr3; have HC3 := Aside0.mk hc3; have A1_ := Aside0.mk h1; have A2 := Aside0.mk h2; have A3_ := Aside0.mk h3
  have hp : (0 : Int) ≤ (L.length : Int) := Int.natCast_nonneg _
  have hq : (L.length : Int) ≤ (l1.length : Int) := Int.ofNat_le.2 hLl
  have hq2 : (L.length : Int) ≤ (c1 : Int) := Int.ofNat_le.2 (Nat.le_trans hLl hc1)
  clear hr0_0 hc0_0 hrL hr3 hc3 h1 h2 h3
  obtain ⟨W0, hW0⟩ : ∃ W0, (w.alloc (.cells #[.slice A0_0 l0_0.length c0_0] 29)).alloc (.cells #[.slice none 0 0] 29) = W0 := ⟨_, rfl⟩
  have HF := Aside0.mk (show ∀ W, Below W0.heap.size W0 W → W.heap[w.heap.size]? = some (.cells #[.slice A0_0 l0_0.length c0_0] 29 (0, 0)) ∧ W.heap[w.heap.size + 1]? = some (.cells #[.slice none 0 0] 29 (0, 0)) ∧ Below w.heap.size w W ∧ w.heap.size + 2 ≤ W.heap.size from fun W h => by
    rw [← hW0, dk_sz, dk_sz] at h
    exact ⟨(h.block _ (by omega)).trans (blk_alloc (blk_new _ _) _), (h.block _ (by omega)).trans (dk_new2 w _ _), (below_alloc (below_alloc (Below.refl _ _) _) _).trans (h.mono (by omega)), by have := h.size; rw [dk_sz, dk_sz] at this; omega⟩)
  go_enter Try.func38, Try.ntmps38
  go_wp2_with (first | (go_at_call 49; refine (spec_l01In.calls _ 0 _ true _ A1_.out).mono ?_; rintro e_ w1 ⟨rfl, ⟨nd, rfl⟩⟩))
  clear hW0
  have HALL := Aside0.mk (show ∀ W, Below W0.heap.size W0 W → W.cell? ⟨w.heap.size, 0, none⟩ = some (.slice A0_0 l0_0.length c0_0) ∧ Aside0 (Below W0.heap.size W0 W) from fun W h => ⟨(blk_cell (HF.out W h).1 0).trans rfl, ⟨h⟩⟩)
  go_region_held3 (fun w' => w'.cell? ⟨w.heap.size, 0, none⟩ = some (.slice A0_0 l0_0.length c0_0) ∧ Aside0 (Below W0.heap.size W0 w')) (first | exact HALL.out _ (below_drew1 (pw_below_drewN (Below.refl _ _) nd)) | exact HALL.out _ HB1.out | exact HALL.out _ (below_alloc (acQ2 (by assumption)) _) | exact HALL.out _ (below_alloc HB1.out _) | exact HALL.out _ (below_set HB1.out (Nat.le_refl _))) (first | (go_at_call 28; refine (spec_DoActs.calls k A0_0 c0_0 l0_0 A1 c1 L R n _ ?s1 HC0.out ?s2 HCL.out A2.out).mono ?_; (case s1 => exact Kd.C_below HR0.out (HF.out _ (acQ2 (by assumption))).2.2.1); (case s2 => exact Kd.C_below HRL.out (HF.out _ (acQ2 (by assumption))).2.2.1); rintro e_ w1 ⟨v10, rfl, o10, hb⟩; obtain ⟨A10, c10, rfl⟩ := Kd.R_slice o10; have HB1 := Aside0.mk (below_step (show Below W0.heap.size W0 _ from acQ2 (by assumption)) hb); have HO1 := Aside0.mk (Kd.R_lower o10 (below_size (show Below W0.heap.size W0 _ from acQ2 (by assumption)))); (try (have hbx := Aside0.mk (blk_below (show ((W0.drewN nd).drew.alloc (.cells #[.slice none 0 0] 29)).heap[W0.heap.size]? = some (.cells #[.slice none 0 0] 29 (0, 0)) from blk_new _ _) hb); have hcx := (blk_cell hbx.out 0).trans rfl; have hfx := blk_frozen hbx.out 0)); clear o10 hb))
  all_goals first
    | (obtain ⟨W2, hW2⟩ : ∃ W2, w1.setCell ⟨W0.heap.size, 0, none⟩ (.slice A10 R.length c10) = W2 := ⟨_, rfl⟩
       obtain ⟨b10, hb10⟩ : ∃ b, W0.heap.size = b := ⟨_, rfl⟩
       have HW := Aside0.mk (show Below W0.heap.size W0 W2 ∧ W2.heap[b10]? = some (.cells #[.slice A10 R.length c10] 29 (0, 0)) ∧ Kd.R k67 67 W2 W0.heap.size (fun _ => True) (.slice A10 R.length c10) R ∧ W0.heap.size ≤ b10 from by
         rw [← hW2, ← hb10]
         exact ⟨below_set HB1.out (Nat.le_refl _), blk_put hbx.out 0 _ rfl, Kd.R_set HO1.out hbx.out (by decide) 0 _, Nat.le_refl _⟩)
       rw [hW2, hb10]
       clear hcx hfx hbx hW2 hb10)
    | (obtain ⟨W2, hW2⟩ : ∃ W2, w1.alloc (.cells #[.slice A10 R.length c10] 29) = W2 := ⟨_, rfl⟩
       obtain ⟨b10, hb10⟩ : ∃ b, w1.heap.size = b := ⟨_, rfl⟩
       have HW := Aside0.mk (show Below W0.heap.size W0 W2 ∧ W2.heap[b10]? = some (.cells #[.slice A10 R.length c10] 29 (0, 0)) ∧ Kd.R k67 67 W2 W0.heap.size (fun _ => True) (.slice A10 R.length c10) R ∧ W0.heap.size ≤ b10 from by
         rw [← hW2, ← hb10]
         exact ⟨below_alloc HB1.out _, blk_new _ _, Kd.R_alloc HO1.out _, HB1.out.size⟩)
       rw [hW2, hb10]
       clear hW2 hb10)
  all_goals
    rename_i hh_
    clear hh_ HB1 HO1
    have hcz := (blk_cell HW.out.2.1 0).trans rfl
    have hcr := (blk_cell (HF.out _ HW.out.1).2.1 0).trans rfl
    have hfr := blk_frozen (HF.out _ HW.out.1).2.1 0
    rcases A3_.out with ⟨hn, rfl, rfl⟩ | ⟨hn, h3⟩
    · have hn2 : decide (n < (L.length : Int)) = true := decide_eq_true hn
      go_wp2
      (try simp only [Exit.inBlock, Exit.then])
      exact bodyPost_ret (ret29 (x := .slice none 0 0) (y := .bool false) rfl _ _ (blk_put (HF.out _ HW.out.1).2.1 0 _ rfl) rfl rfl) rfl ⟨_, rfl, Kd.R_nil _ _ _ _ _, below_set (HF.out _ HW.out.1).2.2.1 (by omega)⟩
    · have hn2 : decide (n < (L.length : Int)) = false := decide_eq_false (by omega)
      have A4 := Aside0.mk h3
      clear h3
      go_wp2_with (first | (go_at_call 33; refine (spec_LoseDisk.calls k A10 c10 R A3 c3 l3 r1 r2 _ (Kd.R_reads' HW.out.2.2.1).2.2 (Kd.R_reads' HW.out.2.2.1).2.1 (Kd.C_below HR3.out (HF.out _ HW.out.1).2.2.1) HC3.out A4.out).mono ?_; rintro e_ w3 ⟨v11, rfl, o11, hb⟩; have HW3 := Aside0.mk (below_step HW.out.1 hb); have HO3 := Aside0.mk (Kd.R_lower o11 (Nat.le_trans (HF.out _ (Below.refl _ _)).2.2.1.size HW.out.1.size)); clear hcr hfr hcz; have hcr := (blk_cell (HF.out _ HW3.out).2.1 0).trans rfl; have hfr := blk_frozen (HF.out _ HW3.out).2.1 0; have hval := Kd.R_val o11; clear hb; obtain ⟨A11, c11, rfl⟩ := Kd.R_slice o11; clear o11))
      (try simp only [Exit.inBlock, Exit.then])
      exact bodyPost_ret (ret29 (y := .bool r2) rfl _ _ (blk_put (HF.out _ HW3.out).2.1 0 _ rfl) rfl rfl) rfl ⟨_, rfl, Kd.R_set HO3.out (HF.out _ HW3.out).2.1 (by decide) 0 _, below_set (HF.out _ HW3.out).2.2.1 (by omega)⟩
theorem spec_CutActs.calls (k : Nat) (A0_0 : Option Addr) (c0_0 : Nat) (l0_0 : List (S67)) (A1 : Option Addr) (c1 : Nat) (l1 : List (S41)) (a2 : Int) (A3 : Option Addr) (c3 : Nat) (l3 : List Int) (r1 : List (S67)) (r2 : Bool) (w : World) (hr0_0 : Kd.C k67 w A0_0 l0_0.length l0_0) (hc0_0 : l0_0.length ≤ c0_0) (hr1 : Kd.C k41 w A1 l1.length l1) (hc1 : l1.length ≤ c1) (hr3 : Kd.C (Kd.int .i64) w A3 l3.length l3) (hc3 : l3.length ≤ c3) (h : spec_CutActs.f k l0_0 l1 a2 l3 = some (r1, r2)) :
  Calls Try.prog 38 #[.agg #[.slice A0_0 l0_0.length c0_0], .slice A1 l1.length c1, .int .i64 a2, .slice A3 l3.length c3] w fun e w' => ∃ v0_ : Value, e = .returned (.tuple #[.agg #[v0_], .bool r2]) ∧ Kd.R k67 67 w' w.heap.size (fun _ => True) v0_ r1 ∧ Below w.heap.size w w' := by
  unfold spec_CutActs.f at h
  obtain ⟨t, e1, h⟩ := Option.bind_eq_some_iff.1 h
  cases t with
  | false =>
    rw [if_neg (by decide)] at h
    injection Option.some.inj h with g1 g2
    subst g1 g2
    exact spec_CutActs_no A0_0 c0_0 l0_0 A1 c1 l1.length a2 A3 c3 l3.length w e1
  | true =>
    rw [if_pos rfl] at h
    by_cases c : 0 ≤ a2
    · by_cases d : a2 ≤ (l1.length : Int)
      · rw [if_pos c, if_pos d] at h
        obtain ⟨⟨R, n⟩, e2, h⟩ := Option.bind_eq_some_iff.1 h
        have hrL := Kd.C_take hr1 (m := a2.toNat) (by omega)
        have hl : ((l1.take a2.toNat).length : Int) = a2 := by rw [List.length_take]; omega
        have hle : (l1.take a2.toNat).length ≤ l1.length := by rw [List.length_take]; omega
        generalize l1.take a2.toNat = L at hrL hl hle e2
        subst hl
        refine spec_CutActs_yes k A0_0 c0_0 l0_0 A1 c1 l1 L A3 c3 l3 R r1 n r2 w hr0_0 hc0_0 hrL hc1 hle hr3 hc3 e1 e2 ?_
        by_cases e : n < (L.length : Int)
        · rw [if_pos e] at h
          injection Option.some.inj h with g1 g2
          exact .inl ⟨e, g1.symm, g2.symm⟩
        · rw [if_neg e] at h
          obtain ⟨⟨x, y⟩, e3, h⟩ := Option.bind_eq_some_iff.1 h
          injection Option.some.inj h with g1 g2
          subst g1 g2
          exact .inr ⟨e, e3⟩
      · rw [if_pos c, if_neg d] at h; cases h
    · rw [if_neg c] at h; cases h
/-! ### impl_LoseDisk: function 35 -/
def impl_LoseDisk.f (l0_0 : List (S67)) (l1 : List Int) : Option (List (S67) × Bool) := if l0_0.length ≤ 1000000000 then some (if okD l0_0 = true then loseD l0_0 l1 else [], okD l0_0) else none
theorem impl_LoseDisk.calls (A0_0 : Option Addr) (c0_0 : Nat) (l0_0 : List (S67)) (A1 : Option Addr) (c1 : Nat) (l1 : List Int) (r1 : List (S67)) (r2 : Bool) (w : World) (hr0_0 : Kd.C k67 w A0_0 l0_0.length l0_0) (hc0_0 : l0_0.length ≤ c0_0) (hr1 : Kd.C (Kd.int .i64) w A1 l1.length l1) (hc1 : l1.length ≤ c1) (h : impl_LoseDisk.f l0_0 l1 = some (r1, r2)) :
    Calls Try.prog 35 #[.agg #[.slice A0_0 l0_0.length c0_0], .slice A1 l1.length c1] w fun e w' => ∃ v0_ : Value, e = .returned (.tuple #[.agg #[v0_], .bool r2]) ∧ Kd.R k67 67 w' w.heap.size (fun _ => True) v0_ r1 ∧ Below w.heap.size w w' := by
  unfold impl_LoseDisk.f at h
  split at h
  · rename_i b
    have h2 := Option.some.inj h
    injection h2 with e1 e2
    have := ilose_walk A0_0 c0_0 l0_0 A1 c1 l1 w hr0_0 hc0_0 hr1 hc1 b
    rw [e1, e2] at this
    exact this
  · cases h


/-! ### impl_in: function 51 -/
def impl_in.f (a0 : Int) (a1 : Int) (a2 : Int) : Option (Bool) := if a0 ≥ a1 then (some (decide (a0 ≤ a2))) else (some false)
set_option maxHeartbeats 8000000 in
set_option maxRecDepth 100000 in
theorem impl_in.calls (a0 : Int) (a1 : Int) (a2 : Int) (r : Bool) (w : World) (h : impl_in.f a0 a1 a2 = some r) :
  Calls Try.prog 51 #[.int .i64 a0, .int .i64 a1, .int .i64 a2] w fun e w' => e = .returned (.bool r) ∧ Drawn0 w w' := by
 have H : (if a0 ≥ a1 then (some (decide (a0 ≤ a2))) else (some false)) = some r := h
 clear h
 by_cases c4 : a0 ≥ a1
 ·rw [if_pos c4] at H
  have c4b0 : decide (a1 ≤ a0) = true := decide_eq_true c4
  clear c4
  obtain rfl := Option.some.inj H
  go_enter Try.func51, Try.ntmps51
  go_wp2
  go_ret
  exact ⟨by first | rfl | (simp; done) | (simp [*]; done), by repeat (first | exact Drawn0.refl _ | apply Drawn0.step)⟩
 ·rw [if_neg c4] at H
  have c4b0 : decide (a1 ≤ a0) = false := decide_eq_false c4
  clear c4
  obtain rfl := Option.some.inj H
  go_enter Try.func51, Try.ntmps51
  go_wp2
  go_ret
  exact ⟨by first | rfl | (simp; done) | (simp [*]; done), by repeat (first | exact Drawn0.refl _ | apply Drawn0.step)⟩

end Go.Proofs.Yteghgeanbglmoaa.PFnActs
