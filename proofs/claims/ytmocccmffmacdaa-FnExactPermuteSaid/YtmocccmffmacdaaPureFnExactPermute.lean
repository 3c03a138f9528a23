/- Of every text of up to 1048576 bytes the program's permuted text is the reference's. No condition. -/
import Derived.Test.YtmocccmffmacdaaPFnExactPermutex1
set_option linter.unusedVariables false
set_option linter.unusedSimpArgs false
namespace Go.Proofs.Ytmocccmffmacdaa.Pure
open Go.RowKit Go.Proofs.Ytmocccmffmacdaa.PFnExactPermute Go.Proofs.YtmocccmffmacdaaW.PrintWords Go.Proofs.YtmocccmffmacdaaW.PrintLast Go.Proofs.YtmocccmffmacdaaW.PrintMore

theorem FnExactPermute : laws_FnExactPermute.Pure := by
  intro s hs
  unfold laws_FnExactPermute.f
  by_cases h1 : (s.size : Int) > 1048576
  · rw [if_pos h1]
  · rw [if_neg h1]
    unfold spec_Permute.f impl_Permute.f
    rw [if_pos (by omega)]
    simp

end Go.Proofs.Ytmocccmffmacdaa.Pure
