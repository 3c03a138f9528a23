/- The program's constants are those of the document. No condition. -/
import Derived.Test.YtmlbbikmgnipmaaPFnExactConstantsx1
set_option linter.unusedVariables false
set_option linter.unusedSimpArgs false
namespace Go.Proofs.Ytmlbbikmgnipmaa.Pure
open Go.RowKit Go.Proofs.Ytmlbbikmgnipmaa.PFnExactConstants Go.Proofs.YtmlbbikmgnipmaaW.PrintWords Go.Proofs.YtmlbbikmgnipmaaW.PrintLast Go.Proofs.YtmlbbikmgnipmaaW.PrintMore

theorem FnExactConstants : laws_FnExactConstants.Pure := rfl

end Go.Proofs.Ytmlbbikmgnipmaa.Pure
