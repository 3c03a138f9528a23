/- The program's new hasher is the reference's. No condition. -/
import Derived.Test.YtlddohppkcndjaaPFnExactHasherNewx1
set_option linter.unusedVariables false
set_option linter.unusedSimpArgs false
namespace Go.Proofs.Ytlddohppkcndjaa.Pure
open Go.RowKit Go.Proofs.Ytlddohppkcndjaa.PFnExactHasherNew Go.Proofs.YtlddohppkcndjaaW.PrintWords Go.Proofs.YtlddohppkcndjaaW.PrintLast Go.Proofs.YtlddohppkcndjaaW.PrintMore

theorem FnExactHasherNew : laws_FnExactHasherNew.Pure := by
  unfold laws_FnExactHasherNew.Pure laws_FnExactHasherNew.f spec_HasherNew.f impl_HasherNew.f laws_eqHasher.f
  simp

end Go.Proofs.Ytlddohppkcndjaa.Pure
