/- Of every text of up to 1048576 bytes the program's digest is the reference's. Condition: the table of the rounds' numbers reads as the program's text lays it (tied to that text). -/
import Derived.Test.YtlddohppkcndjaaDoorPFnExactDigestOfx1
set_option linter.unusedVariables false
set_option linter.unusedSimpArgs false
namespace Go.Proofs.YtlddohppkcndjaaDoor.Pure
open Go.RowKit Go.Proofs.YtlddohppkcndjaaDoor.PFnExactDigestOf Go.Proofs.YtlddohppkcndjaaDoorW.PrintWords Go.Proofs.YtlddohppkcndjaaDoorW.PrintLast Go.Proofs.YtlddohppkcndjaaDoorW.PrintMore

theorem FnExactDigestOf : laws_FnExactDigestOf.Pure := by
  intro s hs
  unfold laws_FnExactDigestOf.f
  by_cases h1 : (s.size : Int) > 1048576
  · rw [if_pos h1]
  · rw [if_neg h1]
    unfold spec_DigestOf.f impl_DigestOf.f
    rw [if_pos (by omega), if_pos (by omega)]
    simp

end Go.Proofs.YtlddohppkcndjaaDoor.Pure
