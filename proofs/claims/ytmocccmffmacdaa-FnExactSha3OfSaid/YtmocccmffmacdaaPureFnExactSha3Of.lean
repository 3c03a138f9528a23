/- Of every text of up to 1048576 bytes the program's digest by the sponge is the reference's. No condition. -/
import Derived.Test.YtmocccmffmacdaaPFnExactSha3Ofx1
set_option linter.unusedVariables false
set_option linter.unusedSimpArgs false
namespace Go.Proofs.Ytmocccmffmacdaa.Pure
open Go.RowKit Go.Proofs.Ytmocccmffmacdaa.PFnExactSha3Of Go.Proofs.YtmocccmffmacdaaW.PrintWords Go.Proofs.YtmocccmffmacdaaW.PrintLast Go.Proofs.YtmocccmffmacdaaW.PrintMore

theorem FnExactSha3Of : laws_FnExactSha3Of.Pure := by
  intro s hs
  unfold laws_FnExactSha3Of.f
  by_cases h1 : (s.size : Int) > 1048576
  · rw [if_pos h1]
  · have hz : (Kec.specAbsorbed s 6 (136 : Int).toNat).size = 200 := Kec.stx_size _
    rw [if_neg h1]
    unfold spec_Sha3Of.f impl_Sha3Of.f spec_l07Absorb.f impl_absorbed.f
    rw [if_pos ⟨by omega, .inl rfl, by decide, by decide⟩]
    simp only [Option.bind_some]
    rw [if_pos (by decide), if_pos (by omega)]
    simp

end Go.Proofs.Ytmocccmffmacdaa.Pure
