/- Of every text of up to 1048576 bytes the program's new stream is the reference's. No condition. -/
import Derived.Test.YtmocccmffmacdaaPFnExactStreamNewx1
set_option linter.unusedVariables false
set_option linter.unusedSimpArgs false
namespace Go.Proofs.Ytmocccmffmacdaa.Pure
open Go.RowKit Go.Proofs.Ytmocccmffmacdaa.PFnExactStreamNew Go.Proofs.YtmocccmffmacdaaW.PrintWords Go.Proofs.YtmocccmffmacdaaW.PrintLast Go.Proofs.YtmocccmffmacdaaW.PrintMore

theorem FnExactStreamNew : laws_FnExactStreamNew.Pure := by
  intro s hs
  unfold laws_FnExactStreamNew.f
  by_cases h1 : (s.size : Int) > 1048576
  · rw [if_pos h1]
  · rw [if_neg h1]
    unfold spec_StreamNew.f impl_StreamNew.f spec_l07Absorb.f impl_absorbed.f laws_eqStream.f
    rw [if_pos ⟨by omega, .inr rfl, by decide, by decide⟩]
    simp

end Go.Proofs.Ytmocccmffmacdaa.Pure
