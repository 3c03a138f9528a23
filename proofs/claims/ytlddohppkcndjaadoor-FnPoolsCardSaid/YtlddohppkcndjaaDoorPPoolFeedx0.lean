-- a text of this session's program wip/hyb.py (over the kit's print), out of the translation
import Derived.Test.YtlddohppkcndjaaDoorProg
import Derived.Below
import Derived.Deep.Draws
import Derived.Deep.AppendLies
import Derived.Maps.AppendAt
import Derived.OwnWalk
import Derived.Laws.BytesArg
import Derived.Laws.MakeOwn
import Derived.Laws.OwnMore
import Derived.Deep.OwnRows
import Derived.Tactics
import Derived.Lib.ConvBytes
import Derived.Laws.Slices
import Derived.WalkKit
import Derived.KernelRfl
import Derived.RowKit3
import Derived.Deep.LoopGhost
import Derived.Deep.QuietTactic
import Derived.BigQuiet
import Derived.WideLaws
import Derived.Deep.DeepCutAuto
import Derived.Deep.CutBlock
import Derived.Deep.RegionHeld3
import Derived.Laws.Rows
import Derived.Lib.AppendStr
import Derived.ArgAppend
import Derived.Laws.IdiomCopy
import Derived.OrdersHeld
import Derived.Laws.BitsLemmas
import Derived.RowKit
import Derived.Test.YtlddohppkcndjaaDoorShaPool
import Derived.Test.YtlddohppkcndjaaDoorWWords
import Derived.Test.YtlddohppkcndjaaDoorWLast
import Derived.Test.YtlddohppkcndjaaDoorWTab
import Derived.Test.YtlddohppkcndjaaDoorWFour
import Derived.Test.YtlddohppkcndjaaDoorWQPut
import Derived.Test.YtlddohppkcndjaaDoorWApart
import Derived.Test.YtlddohppkcndjaaDoorWArr
import Derived.Test.YtlddohppkcndjaaDoorWZeros
import Derived.Test.YtlddohppkcndjaaDoorWFoot
import Derived.Test.YtlddohppkcndjaaDoorWKept
import Derived.Test.YtlddohppkcndjaaDoorWShare
import Derived.Test.YtlddohppkcndjaaDoorWN
import Derived.Test.YtlddohppkcndjaaDoorWFootNe
import Derived.Test.YtlddohppkcndjaaDoorWAt
import Derived.Test.YtlddohppkcndjaaDoorWEqStruct
import Derived.Test.YtlddohppkcndjaaDoorWRepsOne
import Derived.Test.YtlddohppkcndjaaDoorWInv
import Derived.Test.YtlddohppkcndjaaDoorWInvWords
import Derived.Test.YtlddohppkcndjaaDoorWGuard
import Derived.Test.YtlddohppkcndjaaDoorWNEv
import Derived.Test.YtlddohppkcndjaaDoorWMore
namespace Go.Proofs.YtlddohppkcndjaaDoor.PPoolFeed
open Go.RowKit Go.Proofs.YtlddohppkcndjaaDoorW.PrintWords Go.Proofs.YtlddohppkcndjaaDoorW.PrintLast Go.Proofs.YtlddohppkcndjaaDoorW.PrintMore
attribute [local go_sem] max2_int min2_int max_two min_two max_three min_three max_four min_four   -- for this text's walks alone
set_option linter.unusedVariables false
set_option linter.unusedSimpArgs false



def errW : Option Int → Value
  | none => .nilIface
  | some c => .iface 0 (.int .i64 c)
theorem errW_none : errW none = .nilIface := rfl
theorem errW_some (c : Int) : errW (some c) = .iface 0 (.int .i64 c) := rfl

-- the values' own types

end Go.Proofs.YtlddohppkcndjaaDoor.PPoolFeed
