-- a text of this session's program wip/hyb.py (over the kit's print), out of the translation
import Derived.Test.YtlddohppkcndjaaDoorCards
import Derived.Test.YtlddohppkcndjaaDoorTie
import Derived.Test.YtlddohppkcndjaaDoorPFnExactPoolTakex1
import Derived.Test.YtlddohppkcndjaaDoorPureFnExactPoolTake
import Derived.WalkKit
import Derived.ProofKit
import Derived.OpenShut
import Derived.ShutString
import Derived.ChangeOld
import Derived.Below
import Derived.SizedLaws
import Derived.ChangeSame
import Derived.Deep.Slices
import Derived.Deep.Fields
import Derived.Lib.SmallJoins
import Derived.Carry
import Derived.Test.YtlddohppkcndjaaDoorWSized
import Derived.Test.YtlddohppkcndjaaDoorShaL
import Derived.LaidMore
import Derived.LaidLaws
import Derived.Stop.Joined
import Derived.Stop.LaidErr
namespace Go.Proofs.YtlddohppkcndjaaDoor.fnExactPoolTake
open Go.ChangeShapes Go.WideShapes Go.ChangeAt Go.RowKit Go.Joins Go.Deep
open Go.ChangeMaps (open_string shut_string)
open Go.Proofs.YtlddohppkcndjaaDoor.PFnExactPoolTake Go.Proofs.YtlddohppkcndjaaDoorW.PrintWords Go.Proofs.YtlddohppkcndjaaDoorW.PrintLast
set_option linter.unusedVariables false
set_option linter.unusedSimpArgs false
theorem own : ownKnob Tryd.prog.godebug = none := by kernel_rfl
theorem laidOut : laidOutB Tryd.prog = true := by kernel_rfl
theorem arr3 {α : Type} {a : Array α} (h : a.size = 3) : ∃ x0 x1 x2, a = #[x0, x1, x2] := by
  obtain ⟨l⟩ := a
  match l, h with
  | [x0, x1, x2], _ => exact ⟨x0, x1, x2, rfl⟩
theorem table {W : World} (h : laidMetH Tryd.prog Rows.fnExactPoolTakeRow.laid W) : Sha.Tab W := by
  rw [MakeChecks.laidMetH_plain _ _ _ (by kernel_rfl)] at h
  exact Lib.tabIs_of_head Sha.gTab Sha.gTabType Tryd.underlying101 Tryd.underlying66 Sha.cells66 Sha.cells101 h
/-- The start for the witness: the variables as the program's own text lays them. -/
theorem door_met (os : Os) (args : Array Value) : laidMetH Tryd.prog Rows.fnExactPoolTakeRow.laid ((World.doorLaid Tryd.prog 14 os).forCall (fun _ _ => 0) ⟨#[], args, []⟩).memory := by
  rw [MakeChecks.laidMetH_plain _ _ _ (by kernel_rfl)]
  exact laidMet_of_run' 8 (by kernel_rfl) (by kernel_rfl)
set_option maxRecDepth 100000 in
theorem lifted (os : Os) (started : os.Started) (H : Type) (enc : TypeId × Value → H) :
    ReturnsInHanded {} Tryd.checked os 9 .any (fun w args => (Rows.fnExactPoolTakeSpec.pre enc Tryd.prog Tryd.f9 [] false w args ∧ laidMetH Tryd.prog Rows.fnExactPoolTakeRow.laid w) ∧ sizedMet enc Tryd.prog Tryd.f9 (OpenSpec.ofChange Rows.fnExactPoolTakeSpec) false w args) (Rows.fnExactPoolTakeSpec.post enc Tryd.prog Tryd.f9 false true false false) := by
  refine returnsInHanded_of_change_and (C := Tryd.checked) (X := fun w _ => laidMetH Tryd.prog Rows.fnExactPoolTakeRow.laid w) (fun _ _ _ hh h => h.of_heap hh) own started (by kernel_rfl) Tryd.func9
    (ChangeSpec.witness_shaped (enc := enc) (C := Tryd.checked) (os := os) (X := fun w _ => laidMetH Tryd.prog Rows.fnExactPoolTakeRow.laid w) false (World.doorLaid Tryd.prog 14 os) #[.agg #[.string ByteArray.empty, .string ByteArray.empty, .int .i64 0], .int .i64 0] 8 rfl (World.shaped_of_RefB (by kernel_rfl) (by kernel_rfl)) (by kernel_rfl) (by kernel_rfl) (by kernel_rfl) (door_met os _)) ?_
  intro W base args ds gs before hval0 hW hcnd hsz0 hL _
  have hsz : (DataW.weightsEach Tryd.prog (Tryd.f9.params.toList ++ Rows.fnExactPoolTakeSpec.plain.varTypes Tryd.prog) (ds ++ gs)).all (· ≤ reachBytes) = true := hsz0
  have hval : ∀ (j : Nat) t v, Tryd.f9.params[j]? = some t → args[j]? = some v → Value.okWide Tryd.prog W .any base t v := hval0
  have hW' := hW
  obtain ⟨p, q, hA0, hV, rfl, hfz, hnd⟩ := hW
  have hA : DataW.TrodAll enc Tryd.prog W 0 (fun _ => true) true Tryd.f9.params.toList args.toList ds p := hA0
  rw [Tryd.params9] at hA hval hsz
  obtain ⟨v0, vs0, d0, ds0, p0, q0, hargs, rfl, rfl, h0, r0⟩ := trodAll_cons hA
  obtain ⟨v1, vs1, d1, ds1, p1, q1, rfl, rfl, rfl, h1, r1⟩ := trodAll_cons r0
  obtain ⟨rfl, rfl, rfl⟩ := trodAll_nil r1
  obtain rfl : args = #[v0, v1] := by cases args; simp_all
  obtain ⟨gv0, hgs⟩ : ∃ d, gs = [d] := by obtain ⟨_, _, _, _, d, _, h, _⟩ := trodVars_one hV; exact ⟨d, h⟩
  subst hgs
  have k0 := h0
  have lt0 : ∀ x ∈ p0, x.block < W.heap.size := by obtain ⟨m, hm⟩ := k0; exact DataW.trod_lt m _ _ _ hm
  obtain ⟨cs0, rfl, sz0⟩ := okWide_struct Tryd.underlying43 (hval 0 43 v0 rfl rfl)
  have cz0 : Tryd.prog.cellsOf 43 = 3 := by kernel_rfl
  obtain ⟨fuel0, hf0⟩ := h0
  obtain ⟨ys0, n0, _, _, hl0, hy0, hq0⟩ := DataW.trod_struct Tryd.underlying43 hf0
  obtain ⟨c0_0, c0_1, c0_2, rfl⟩ := arr3 (sz0.trans cz0)
  have hys0 : ys0.length = 3 := hy0
  have q0_0 := hq0 0 _ rfl
  rw [List.getElem?_eq_getElem (show 0 < ys0.length by omega)] at q0_0
  have w0_0 : Tryd.prog.cellsOf 9 = 1 := by kernel_rfl
  simp only [Value.cells, w0_0] at q0_0
  replace q0_0 : DataW.trod enc Tryd.prog W 0 (fun _ => true) true n0 9 [c0_0] = some _ := q0_0
  obtain ⟨s0_0, e0_0, _, g0_0⟩ := DataW.trod_string Tryd.underlying9 q0_0
  simp only [List.cons.injEq, and_true] at e0_0
  subst e0_0
  have q0_1 := hq0 1 _ rfl
  rw [List.getElem?_eq_getElem (show 1 < ys0.length by omega)] at q0_1
  have w0_1 : Tryd.prog.cellsOf 9 = 1 := by kernel_rfl
  simp only [Value.cells, w0_1] at q0_1
  replace q0_1 : DataW.trod enc Tryd.prog W 0 (fun _ => true) true n0 9 [c0_1] = some _ := q0_1
  obtain ⟨s0_1, e0_1, _, g0_1⟩ := DataW.trod_string Tryd.underlying9 q0_1
  simp only [List.cons.injEq, and_true] at e0_1
  subst e0_1
  have q0_2 := hq0 2 _ rfl
  rw [List.getElem?_eq_getElem (show 2 < ys0.length by omega)] at q0_2
  have w0_2 : Tryd.prog.cellsOf 3 = 1 := by kernel_rfl
  simp only [Value.cells, w0_2] at q0_2
  replace q0_2 : DataW.trod enc Tryd.prog W 0 (fun _ => true) true n0 3 [c0_2] = some _ := q0_2
  obtain ⟨s0_2, e0_2, _, g0_2⟩ := DataW.trod_int Tryd.underlying3 q0_2
  simp only [List.cons.injEq, and_true] at e0_2
  subst e0_2
  have k1 := h1
  have lt1 : ∀ x ∈ p1, x.block < W.heap.size := by obtain ⟨m, hm⟩ := k1; exact DataW.trod_lt m _ _ _ hm
  obtain ⟨a1, rfl, rfl, rfl, w1⟩ := open_int Tryd.underlying3 (hval 1 3 v1 rfl rfl) h1
  clear hA0 hval0 hsz0 hsz
  have hp := Pure.FnExactPoolTake s0_0 s0_1 s0_2 a1 g0_0 g0_1 g0_2 w1
  have ht := table hL
  refine (laws_FnExactPoolTake.calls s0_0 s0_1 s0_2 a1 true W  hp ht).mono fun e W' he => ?_
  obtain ⟨he, bel0⟩ := he
  have bel : Below W.heap.size W W' := bel0
  subst he
  obtain ⟨pv0, hpv⟩ := Sha.vars_stay hV bel
  exact ⟨_, rfl, _, _, _, [], _, pv0, hW', trodAll_mk1 (shut_bool Tryd.underlying4 _), (trodAll_cons_mk (Below.trod laidOut (by kernel_rfl) (of_decide_eq_true (by kernel_rfl)) k0 bel lt0) (trodAll_cons_mk (Below.trod laidOut (by kernel_rfl) (of_decide_eq_true (by kernel_rfl)) k1 bel lt1) trodAll_mk0)), hpv, bel.frame _, fun h => by cases h⟩
theorem said : Rows.FnExactPoolTakeSaid :=
  OpenClaim.holds_of_wide 9 Tryd.f9 rfl rfl rfl rfl rfl rfl rfl ⟨rfl, rfl, rfl, rfl, rfl⟩ rfl rfl rfl rfl rfl (by kernel_rfl) Tryd.func9 (by kernel_rfl)
    (of_decide_eq_true (by kernel_rfl)) (by unfold Func.isWrapper; first | (rw [if_pos (by decide +kernel)]; kernel_rfl) | (rw [if_neg (by decide +kernel)]; exact ⟨rfl, rfl⟩))
    (fun os started H enc _ => lifted os started H enc)
theorem plain (f : FuncId) (fn : Func) (hf : Tryd.pinned.checked.prog.funcNamed "loop.example/g00186/laws.FnExactPoolTake" = some f) (hfn : Tryd.pinned.checked.prog.funcs[f]? = some fn) :
    false = Tryd.pinned.checked.prog.looks [] ∧ ∀ (j : Nat) t, fn.params[j]? = some t → Tryd.pinned.checked.prog.wantsStandIn t = false := by
  obtain rfl : f = 9 := Option.some.inj ((show Tryd.prog.funcNamed "loop.example/g00186/laws.FnExactPoolTake" = some 9 by kernel_rfl).symm.trans hf) |>.symm
  obtain rfl : fn = Tryd.f9 := (Option.some.inj (Tryd.func9.symm.trans hfn)).symm
  refine ⟨by kernel_rfl, fun j t ht => ?_⟩
  rw [Tryd.params9] at ht
  have hm : t ∈ [43, 3] := by simpa using Array.mem_of_getElem? ht
  have hall : ([43, 3].all fun u => !Tryd.prog.wantsStandIn u) = true := by kernel_rfl
  exact (show Tryd.prog.wantsStandIn t = false by simpa using List.all_eq_true.1 hall t hm)
theorem card : Rows.FnExactPoolTakeCardSaid :=
  Claim7.holds_tied_plain_at .later [] _ _ _ _ said (fun _ h => by cases h) (by kernel_rfl) (fun _ h => by cases h) fnExactPoolTake_row_tie rfl ⟨rfl, rfl⟩ (by kernel_rfl) rfl plain (by kernel_rfl)
#print axioms card
end Go.Proofs.YtlddohppkcndjaaDoor.fnExactPoolTake
namespace Go.Proofs.YtlddohppkcndjaaDoor
/-- The card, under a short name, for the claim. -/
theorem fnExactPoolTake_holds : Rows.FnExactPoolTakeCardSaid := fnExactPoolTake.card
end Go.Proofs.YtlddohppkcndjaaDoor
