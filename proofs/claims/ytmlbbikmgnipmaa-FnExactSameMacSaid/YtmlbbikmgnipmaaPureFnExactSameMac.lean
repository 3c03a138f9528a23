/- Of every two texts the program's SameMac and the reference's give the same flag. No condition but the form's own bound on a text's size. -/
import Derived.Test.YtmlbbikmgnipmaaPFnExactSameMacx1
set_option linter.unusedVariables false
set_option linter.unusedSimpArgs false
namespace Go.Proofs.Ytmlbbikmgnipmaa.Pure
open Go.RowKit Go.Proofs.Ytmlbbikmgnipmaa.PFnExactSameMac Go.Proofs.YtmlbbikmgnipmaaW.PrintWords Go.Proofs.YtmlbbikmgnipmaaW.PrintLast Go.Proofs.YtmlbbikmgnipmaaW.PrintMore

theorem FnExactSameMac : laws_FnExactSameMac.Pure := by
  intro a b _ _
  unfold laws_FnExactSameMac.f spec_SameMac.f impl_SameMac.f
  by_cases h : (a.size : Int) > 1048576
  · rw [if_pos h]
  · rw [if_neg h]
    by_cases h2 : (b.size : Int) > 1048576
    · rw [if_pos h2]
    · rw [if_neg h2]; simp

end Go.Proofs.Ytmlbbikmgnipmaa.Pure
