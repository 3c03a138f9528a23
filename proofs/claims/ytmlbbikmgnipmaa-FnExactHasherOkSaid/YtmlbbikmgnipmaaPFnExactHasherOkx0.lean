-- a text of this session's program wip/hyb.py (over the kit's print), out of the translation
import Derived.Test.YtmlbbikmgnipmaaProg
import Derived.Below
import Derived.Deep.Draws
import Derived.Deep.AppendLies
import Derived.Maps.AppendAt
import Derived.OwnWalk
import Derived.Laws.BytesArg
import Derived.Laws.MakeOwn
import Derived.Laws.OwnMore
import Derived.Deep.OwnRows
import Derived.Tactics
import Derived.Lib.ConvBytes
import Derived.Laws.Slices
import Derived.WalkKit
import Derived.KernelRfl
import Derived.RowKit3
import Derived.Deep.LoopGhost
import Derived.Deep.QuietTactic
import Derived.BigQuiet
import Derived.WideLaws
import Derived.Deep.DeepCutAuto
import Derived.Deep.CutBlock
import Derived.Deep.RegionHeld3
import Derived.Laws.Rows
import Derived.Lib.AppendStr
import Derived.ArgAppend
import Derived.Laws.IdiomCopy
import Derived.OrdersHeld
import Derived.Laws.BitsLemmas
import Derived.RowKit
import Derived.Test.YtmlbbikmgnipmaaWWords
import Derived.Test.YtmlbbikmgnipmaaWLast
import Derived.Test.YtmlbbikmgnipmaaWTab
import Derived.Test.YtmlbbikmgnipmaaWFour
import Derived.Test.YtmlbbikmgnipmaaWQPut
import Derived.Test.YtmlbbikmgnipmaaWApart
import Derived.Test.YtmlbbikmgnipmaaWArr
import Derived.Test.YtmlbbikmgnipmaaWZeros
import Derived.Test.YtmlbbikmgnipmaaWFoot
import Derived.Test.YtmlbbikmgnipmaaWKept
import Derived.Test.YtmlbbikmgnipmaaWShare
import Derived.Test.YtmlbbikmgnipmaaWN
import Derived.Test.YtmlbbikmgnipmaaWFootNe
import Derived.Test.YtmlbbikmgnipmaaWAt
import Derived.Test.YtmlbbikmgnipmaaWEqStruct
import Derived.Test.YtmlbbikmgnipmaaWRepsOne
import Derived.Test.YtmlbbikmgnipmaaWInv
import Derived.Test.YtmlbbikmgnipmaaWInvWords
import Derived.Test.YtmlbbikmgnipmaaWGuard
import Derived.Test.YtmlbbikmgnipmaaWNEv
import Derived.Test.YtmlbbikmgnipmaaWMore
namespace Go.Proofs.Ytmlbbikmgnipmaa.PFnExactHasherOk
open Go.RowKit Go.Proofs.YtmlbbikmgnipmaaW.PrintWords Go.Proofs.YtmlbbikmgnipmaaW.PrintLast Go.Proofs.YtmlbbikmgnipmaaW.PrintMore
attribute [local go_sem] max2_int min2_int max_two min_two max_three min_three max_four min_four   -- for this text's walks alone
set_option linter.unusedVariables false
set_option linter.unusedSimpArgs false



def errW : Option Int → Value
  | none => .nilIface
  | some c => .iface 0 (.int .i64 c)
theorem errW_none : errW none = .nilIface := rfl
theorem errW_some (c : Int) : errW (some c) = .iface 0 (.int .i64 c) := rfl

-- the values' own types

end Go.Proofs.Ytmlbbikmgnipmaa.PFnExactHasherOk
