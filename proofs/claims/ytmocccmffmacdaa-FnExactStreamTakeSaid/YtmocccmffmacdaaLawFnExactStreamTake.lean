-- a text of this session's program wip/hyb.py (over the kit's print), out of the translation
import Derived.Test.YtmocccmffmacdaaRows
import Derived.Test.YtmocccmffmacdaaPFnExactStreamTakex1
import Derived.Test.YtmocccmffmacdaaPureFnExactStreamTake
import Derived.WalkKit
import Derived.ProofKit
import Derived.OpenShut
import Derived.ShutString
import Derived.ChangeOld
import Derived.Below
import Derived.SizedLaws
import Derived.ChangeSame
import Derived.Deep.Slices
import Derived.Deep.Fields
import Derived.Lib.SmallJoins
import Derived.Carry
import Derived.Test.YtmocccmffmacdaaWSized
namespace Go.Proofs.Ytmocccmffmacdaa.fnExactStreamTake
open Go.ChangeShapes Go.WideShapes Go.ChangeAt Go.RowKit Go.Joins Go.Deep
open Go.ChangeMaps (open_string shut_string)
open Go.Proofs.Ytmocccmffmacdaa.PFnExactStreamTake Go.Proofs.YtmocccmffmacdaaW.PrintWords Go.Proofs.YtmocccmffmacdaaW.PrintLast
set_option linter.unusedVariables false
set_option linter.unusedSimpArgs false
theorem own : ownKnob Try.prog.godebug = none := by kernel_rfl
theorem laidOut : laidOutB Try.prog = true := by kernel_rfl
theorem arr2 {α : Type} {a : Array α} (h : a.size = 2) : ∃ x0 x1, a = #[x0, x1] := by
  obtain ⟨l⟩ := a
  match l, h with
  | [x0, x1], _ => exact ⟨x0, x1, rfl⟩
set_option maxRecDepth 100000 in
theorem lifted (os : Os) (started : os.Started) (H : Type) (enc : TypeId × Value → H) :
    ReturnsInHanded {} Try.checked os 7 .any (Rows.fnExactStreamTakeSpec.pre6 enc Try.prog Try.f7 Rows.fnExactStreamTakeRow.domain false) (Rows.fnExactStreamTakeSpec.post enc Try.prog Try.f7 false true false false) := by
  refine returnsInHanded_of_change_sized (C := Try.checked) own started (by kernel_rfl) Try.func7
    (ChangeSpec.witness6 (enc := enc) (C := Try.checked) false ⟨#[], #[.agg #[.string ByteArray.empty, .int .i64 0], .int .i64 0], []⟩ 8 (by kernel_rfl) (by kernel_rfl) (by kernel_rfl) (by kernel_rfl)) ?_
  intro W base args ds gs before hval0 hW hcnd hsz0 _
  have hsz : (DataW.weightsEach Try.prog (Try.f7.params.toList ++ Rows.fnExactStreamTakeSpec.plain.varTypes Try.prog) (ds ++ gs)).all (· ≤ reachBytes) = true := hsz0
  have hval : ∀ (j : Nat) t v, Try.f7.params[j]? = some t → args[j]? = some v → Value.okWide Try.prog W .any base t v := hval0
  have hW' := hW
  obtain ⟨p, q, hA0, hV, rfl, hfz, hnd⟩ := hW
  have hA : DataW.TrodAll enc Try.prog W 0 (fun _ => true) true Try.f7.params.toList args.toList ds p := hA0
  rw [Try.params7] at hA hval hsz
  obtain ⟨v0, vs0, d0, ds0, p0, q0, hargs, rfl, rfl, h0, r0⟩ := trodAll_cons hA
  obtain ⟨v1, vs1, d1, ds1, p1, q1, rfl, rfl, rfl, h1, r1⟩ := trodAll_cons r0
  obtain ⟨rfl, rfl, rfl⟩ := trodAll_nil r1
  obtain rfl : args = #[v0, v1] := by cases args; simp_all
  obtain ⟨rfl, rfl⟩ := trodVars_none hV
  have k0 := h0
  have lt0 : ∀ x ∈ p0, x.block < W.heap.size := by obtain ⟨m, hm⟩ := k0; exact DataW.trod_lt m _ _ _ hm
  obtain ⟨cs0, rfl, sz0⟩ := okWide_struct Try.underlying31 (hval 0 31 v0 rfl rfl)
  have cz0 : Try.prog.cellsOf 31 = 2 := by kernel_rfl
  obtain ⟨fuel0, hf0⟩ := h0
  obtain ⟨ys0, n0, _, _, hl0, hy0, hq0⟩ := DataW.trod_struct Try.underlying31 hf0
  obtain ⟨c0_0, c0_1, rfl⟩ := arr2 (sz0.trans cz0)
  have hys0 : ys0.length = 2 := hy0
  have q0_0 := hq0 0 _ rfl
  rw [List.getElem?_eq_getElem (show 0 < ys0.length by omega)] at q0_0
  have w0_0 : Try.prog.cellsOf 9 = 1 := by kernel_rfl
  simp only [Value.cells, w0_0] at q0_0
  replace q0_0 : DataW.trod enc Try.prog W 0 (fun _ => true) true n0 9 [c0_0] = some _ := q0_0
  obtain ⟨s0_0, e0_0, _, g0_0⟩ := DataW.trod_string Try.underlying9 q0_0
  simp only [List.cons.injEq, and_true] at e0_0
  subst e0_0
  have q0_1 := hq0 1 _ rfl
  rw [List.getElem?_eq_getElem (show 1 < ys0.length by omega)] at q0_1
  have w0_1 : Try.prog.cellsOf 3 = 1 := by kernel_rfl
  simp only [Value.cells, w0_1] at q0_1
  replace q0_1 : DataW.trod enc Try.prog W 0 (fun _ => true) true n0 3 [c0_1] = some _ := q0_1
  obtain ⟨s0_1, e0_1, _, g0_1⟩ := DataW.trod_int Try.underlying3 q0_1
  simp only [List.cons.injEq, and_true] at e0_1
  subst e0_1
  have k1 := h1
  have lt1 : ∀ x ∈ p1, x.block < W.heap.size := by obtain ⟨m, hm⟩ := k1; exact DataW.trod_lt m _ _ _ hm
  obtain ⟨a1, rfl, rfl, rfl, w1⟩ := open_int Try.underlying3 (hval 1 3 v1 rfl rfl) h1
  clear hA0 hval0 hsz0 hsz
  obtain ⟨kk, hp⟩ := Pure.FnExactStreamTake s0_0 s0_1 a1 g0_0 g0_1 w1
  refine (laws_FnExactStreamTake.calls kk s0_0 s0_1 a1 true W  hp).mono fun e W' he => ?_
  obtain ⟨he, bel0⟩ := he
  have bel : Below W.heap.size W W' := bel0
  subst he
  exact ⟨_, rfl, _, _, _, [], _, [], hW', trodAll_mk1 (shut_bool Try.underlying4 _), (trodAll_cons_mk (Below.trod laidOut (by kernel_rfl) (of_decide_eq_true (by kernel_rfl)) k0 bel lt0) (trodAll_cons_mk (Below.trod laidOut (by kernel_rfl) (of_decide_eq_true (by kernel_rfl)) k1 bel lt1) trodAll_mk0)), rfl, bel.frame _, fun h => by cases h⟩
theorem over : Rows.fnExactStreamTakeRow.holds Try.pinned (OpenSpec.ofChange Rows.fnExactStreamTakeSpec) :=
  OpenClaim.holds_of_wide 7 Try.f7 rfl rfl rfl rfl rfl rfl rfl ⟨rfl, rfl, rfl, rfl, rfl⟩ rfl rfl rfl rfl rfl (by kernel_rfl) Try.func7 (by kernel_rfl)
    (of_decide_eq_true (by kernel_rfl)) (by unfold Func.isWrapper; first | (rw [if_pos (by decide +kernel)]; kernel_rfl) | (rw [if_neg (by decide +kernel)]; exact ⟨rfl, rfl⟩))
    (fun os started H enc _ => lifted os started H enc)
theorem proved : Rows.FnExactStreamTakeSaid := over
#print axioms proved
end Go.Proofs.Ytmocccmffmacdaa.fnExactStreamTake
namespace Go.Proofs.Ytmocccmffmacdaa
/-- The row, under a short name, for the claim. -/
theorem fnExactStreamTake_holds : Rows.FnExactStreamTakeSaid := fnExactStreamTake.proved
end Go.Proofs.Ytmocccmffmacdaa
