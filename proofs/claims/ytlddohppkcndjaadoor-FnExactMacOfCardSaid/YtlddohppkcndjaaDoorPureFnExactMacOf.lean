/- Of every key and text of up to 1048576 bytes the program's sum is the reference's. Condition: the table of the rounds' numbers reads as the program's text lays it (tied to that text). -/
import Derived.Test.YtlddohppkcndjaaDoorPFnExactMacOfx1
import Derived.Test.YtlddohppkcndjaaDoorShaM
set_option linter.unusedVariables false
set_option linter.unusedSimpArgs false
namespace Go.Proofs.YtlddohppkcndjaaDoor.Pure
open Go.RowKit Go.Proofs.YtlddohppkcndjaaDoor.PFnExactMacOf Go.Proofs.YtlddohppkcndjaaDoorW.PrintWords Go.Proofs.YtlddohppkcndjaaDoorW.PrintLast Go.Proofs.YtlddohppkcndjaaDoorW.PrintMore

theorem FnExactMacOf : laws_FnExactMacOf.Pure := by
  intro key s hk hs
  refine ⟨70, ?_⟩
  unfold laws_FnExactMacOf.f
  by_cases h1 : (key.size : Int) > 1048576
  · rw [if_pos h1]
  · rw [if_neg h1]
    by_cases h2 : (s.size : Int) > 1048576
    · rw [if_pos h2]
    · rw [if_neg h2, Sha.specMac_f key s (by omega) (by omega), Sha.mac_f key s (by omega) (by omega)]
      simp

end Go.Proofs.YtlddohppkcndjaaDoor.Pure
