-- a text of this session's program wip/hyb.py (over the kit's print), out of the translation
import Derived.Test.YtmlbbikmgnipmaaRows
import Derived.Test.YtmlbbikmgnipmaaPFnExactHasherOkx1
import Derived.Test.YtmlbbikmgnipmaaPureFnExactHasherOk
import Derived.WalkKit
import Derived.ProofKit
import Derived.OpenShut
import Derived.ShutString
import Derived.ChangeOld
import Derived.Below
import Derived.SizedLaws
import Derived.ChangeSame
import Derived.Deep.Slices
import Derived.Deep.Fields
import Derived.Lib.SmallJoins
import Derived.Carry
import Derived.Test.YtmlbbikmgnipmaaWSized
namespace Go.Proofs.Ytmlbbikmgnipmaa.fnExactHasherOk
open Go.ChangeShapes Go.WideShapes Go.ChangeAt Go.RowKit Go.Joins Go.Deep
open Go.ChangeMaps (open_string shut_string)
open Go.Proofs.Ytmlbbikmgnipmaa.PFnExactHasherOk Go.Proofs.YtmlbbikmgnipmaaW.PrintWords Go.Proofs.YtmlbbikmgnipmaaW.PrintLast
set_option linter.unusedVariables false
set_option linter.unusedSimpArgs false
theorem own : ownKnob Try.prog.godebug = none := by kernel_rfl
theorem laidOut : laidOutB Try.prog = true := by kernel_rfl
theorem arr3 {α : Type} {a : Array α} (h : a.size = 3) : ∃ x0 x1 x2, a = #[x0, x1, x2] := by
  obtain ⟨l⟩ := a
  match l, h with
  | [x0, x1, x2], _ => exact ⟨x0, x1, x2, rfl⟩
set_option maxRecDepth 100000 in
theorem lifted (os : Os) (started : os.Started) (H : Type) (enc : TypeId × Value → H) :
    ReturnsInHanded {} Try.checked os 7 .any (Rows.fnExactHasherOkSpec.pre6 enc Try.prog Try.f7 Rows.fnExactHasherOkRow.domain false) (Rows.fnExactHasherOkSpec.post enc Try.prog Try.f7 false true false false) := by
  refine returnsInHanded_of_change_sized (C := Try.checked) own started (by kernel_rfl) Try.func7
    (ChangeSpec.witness6 (enc := enc) (C := Try.checked) false ⟨#[], #[.agg #[.string ByteArray.empty, .string ByteArray.empty, .int .i64 0]], []⟩ 8 (by kernel_rfl) (by kernel_rfl) (by kernel_rfl) (by kernel_rfl)) ?_
  intro W base args ds gs before hval0 hW hcnd hsz0 _
  have hsz : (DataW.weightsEach Try.prog (Try.f7.params.toList ++ Rows.fnExactHasherOkSpec.plain.varTypes Try.prog) (ds ++ gs)).all (· ≤ reachBytes) = true := hsz0
  have hval : ∀ (j : Nat) t v, Try.f7.params[j]? = some t → args[j]? = some v → Value.okWide Try.prog W .any base t v := hval0
  have hW' := hW
  obtain ⟨p, q, hA0, hV, rfl, hfz, hnd⟩ := hW
  have hA : DataW.TrodAll enc Try.prog W 0 (fun _ => true) true Try.f7.params.toList args.toList ds p := hA0
  rw [Try.params7] at hA hval hsz
  obtain ⟨v0, vs0, d0, ds0, p0, q0, hargs, rfl, rfl, h0, r0⟩ := trodAll_cons hA
  obtain ⟨rfl, rfl, rfl⟩ := trodAll_nil r0
  obtain rfl : args = #[v0] := by cases args; simp_all
  obtain ⟨rfl, rfl⟩ := trodVars_none hV
  have k0 := h0
  have lt0 : ∀ x ∈ p0, x.block < W.heap.size := by obtain ⟨m, hm⟩ := k0; exact DataW.trod_lt m _ _ _ hm
  obtain ⟨cs0, rfl, sz0⟩ := okWide_struct Try.underlying34 (hval 0 34 v0 rfl rfl)
  have cz0 : Try.prog.cellsOf 34 = 3 := by kernel_rfl
  obtain ⟨fuel0, hf0⟩ := h0
  obtain ⟨ys0, n0, _, _, hl0, hy0, hq0⟩ := DataW.trod_struct Try.underlying34 hf0
  obtain ⟨c0_0, c0_1, c0_2, rfl⟩ := arr3 (sz0.trans cz0)
  have hys0 : ys0.length = 3 := hy0
  have q0_0 := hq0 0 _ rfl
  rw [List.getElem?_eq_getElem (show 0 < ys0.length by omega)] at q0_0
  have w0_0 : Try.prog.cellsOf 9 = 1 := by kernel_rfl
  simp only [Value.cells, w0_0] at q0_0
  replace q0_0 : DataW.trod enc Try.prog W 0 (fun _ => true) true n0 9 [c0_0] = some _ := q0_0
  obtain ⟨s0_0, e0_0, _, g0_0⟩ := DataW.trod_string Try.underlying9 q0_0
  simp only [List.cons.injEq, and_true] at e0_0
  subst e0_0
  have q0_1 := hq0 1 _ rfl
  rw [List.getElem?_eq_getElem (show 1 < ys0.length by omega)] at q0_1
  have w0_1 : Try.prog.cellsOf 9 = 1 := by kernel_rfl
  simp only [Value.cells, w0_1] at q0_1
  replace q0_1 : DataW.trod enc Try.prog W 0 (fun _ => true) true n0 9 [c0_1] = some _ := q0_1
  obtain ⟨s0_1, e0_1, _, g0_1⟩ := DataW.trod_string Try.underlying9 q0_1
  simp only [List.cons.injEq, and_true] at e0_1
  subst e0_1
  have q0_2 := hq0 2 _ rfl
  rw [List.getElem?_eq_getElem (show 2 < ys0.length by omega)] at q0_2
  have w0_2 : Try.prog.cellsOf 3 = 1 := by kernel_rfl
  simp only [Value.cells, w0_2] at q0_2
  replace q0_2 : DataW.trod enc Try.prog W 0 (fun _ => true) true n0 3 [c0_2] = some _ := q0_2
  obtain ⟨s0_2, e0_2, _, g0_2⟩ := DataW.trod_int Try.underlying3 q0_2
  simp only [List.cons.injEq, and_true] at e0_2
  subst e0_2
  clear hA0 hval0 hsz0 hsz
  have hp := Pure.FnExactHasherOk s0_0 s0_1 s0_2 g0_0 g0_1 g0_2
  refine (laws_FnExactHasherOk.calls s0_0 s0_1 s0_2 true W  hp).mono fun e W' he => ?_
  obtain ⟨he, bel0⟩ := he
  have bel : Below W.heap.size W W' := bel0
  subst he
  exact ⟨_, rfl, _, _, _, [], _, [], hW', trodAll_mk1 (shut_bool Try.underlying4 _), (trodAll_cons_mk (Below.trod laidOut (by kernel_rfl) (of_decide_eq_true (by kernel_rfl)) k0 bel lt0) trodAll_mk0), rfl, bel.frame _, fun h => by cases h⟩
theorem over : Rows.fnExactHasherOkRow.holds Try.pinned (OpenSpec.ofChange Rows.fnExactHasherOkSpec) :=
  OpenClaim.holds_of_wide 7 Try.f7 rfl rfl rfl rfl rfl rfl rfl ⟨rfl, rfl, rfl, rfl, rfl⟩ rfl rfl rfl rfl rfl (by kernel_rfl) Try.func7 (by kernel_rfl)
    (of_decide_eq_true (by kernel_rfl)) (by unfold Func.isWrapper; first | (rw [if_pos (by decide +kernel)]; kernel_rfl) | (rw [if_neg (by decide +kernel)]; exact ⟨rfl, rfl⟩))
    (fun os started H enc _ => lifted os started H enc)
theorem proved : Rows.FnExactHasherOkSaid := over
#print axioms proved
end Go.Proofs.Ytmlbbikmgnipmaa.fnExactHasherOk
namespace Go.Proofs.Ytmlbbikmgnipmaa
/-- The row, under a short name, for the claim. -/
theorem fnExactHasherOk_holds : Rows.FnExactHasherOkSaid := fnExactHasherOk.proved
end Go.Proofs.Ytmlbbikmgnipmaa
