-- a text of this session's program wip/hyb.py (over the kit's print), out of the translation
import Derived.Test.YtnbggmmpmppnaaaProg
import Derived.Below
import Derived.Deep.Draws
import Derived.Deep.AppendLies
import Derived.Maps.AppendAt
import Derived.OwnWalk
import Derived.Laws.BytesArg
import Derived.Laws.MakeOwn
import Derived.Laws.OwnMore
import Derived.Deep.OwnRows
import Derived.Tactics
import Derived.Lib.ConvBytes
import Derived.Laws.Slices
import Derived.WalkKit
import Derived.KernelRfl
import Derived.RowKit3
import Derived.Deep.LoopGhost
import Derived.Deep.QuietTactic
import Derived.BigQuiet
import Derived.WideLaws
import Derived.Deep.DeepCutAuto
import Derived.Deep.CutBlock
import Derived.Deep.RegionHeld3
import Derived.Laws.Rows
import Derived.Lib.AppendStr
import Derived.ArgAppend
import Derived.Laws.IdiomCopy
import Derived.OrdersHeld
import Derived.Laws.BitsLemmas
import Derived.RowKit
import Derived.Test.YtnbggmmpmppnaaaWWords
import Derived.Test.YtnbggmmpmppnaaaWLast
import Derived.Test.YtnbggmmpmppnaaaWTab
import Derived.Test.YtnbggmmpmppnaaaWFour
import Derived.Test.YtnbggmmpmppnaaaWQPut
import Derived.Test.YtnbggmmpmppnaaaWApart
import Derived.Test.YtnbggmmpmppnaaaWArr
import Derived.Test.YtnbggmmpmppnaaaWZeros
import Derived.Test.YtnbggmmpmppnaaaWFoot
import Derived.Test.YtnbggmmpmppnaaaWKept
import Derived.Test.YtnbggmmpmppnaaaWShare
import Derived.Test.YtnbggmmpmppnaaaWN
import Derived.Test.YtnbggmmpmppnaaaWFootNe
import Derived.Test.YtnbggmmpmppnaaaWAt
import Derived.Test.YtnbggmmpmppnaaaWEqStruct
import Derived.Test.YtnbggmmpmppnaaaWRepsOne
import Derived.Test.YtnbggmmpmppnaaaWInv
import Derived.Test.YtnbggmmpmppnaaaWInvWords
import Derived.Test.YtnbggmmpmppnaaaWGuard
import Derived.Test.YtnbggmmpmppnaaaWNEv
import Derived.Test.YtnbggmmpmppnaaaWMore
namespace Go.Proofs.Ytnbggmmpmppnaaa.PPolySub
open Go.RowKit Go.Proofs.YtnbggmmpmppnaaaW.PrintWords Go.Proofs.YtnbggmmpmppnaaaW.PrintLast Go.Proofs.YtnbggmmpmppnaaaW.PrintMore
attribute [local go_sem] max2_int min2_int max_two min_two max_three min_three max_four min_four   -- for this text's walks alone
set_option linter.unusedVariables false
set_option linter.unusedSimpArgs false



def errW : Option Int → Value
  | none => .nilIface
  | some c => .iface 0 (.int .i64 c)
theorem errW_none : errW none = .nilIface := rfl
theorem errW_some (c : Int) : errW (some c) = .iface 0 (.int .i64 c) := rfl

theorem info3 : (Try.prog.info? 3).map (fun i => (i.zero, i.size, i.bytes)) = some (some (.int .i64 0), 1, 8) := by kernel_rfl
-- the values' own types

end Go.Proofs.Ytnbggmmpmppnaaa.PPolySub
