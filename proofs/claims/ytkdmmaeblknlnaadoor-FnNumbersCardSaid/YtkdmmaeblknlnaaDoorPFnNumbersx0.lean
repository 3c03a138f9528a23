-- a text of this session's program wip/hyb.py (over the kit's print), out of the translation
import Derived.Test.YtkdmmaeblknlnaaDoorProg
import Derived.Below
import Derived.Deep.Draws
import Derived.Deep.AppendLies
import Derived.Maps.AppendAt
import Derived.OwnWalk
import Derived.Laws.BytesArg
import Derived.Laws.MakeOwn
import Derived.Laws.OwnMore
import Derived.Deep.OwnRows
import Derived.Tactics
import Derived.Lib.ConvBytes
import Derived.Laws.Slices
import Derived.WalkKit
import Derived.KernelRfl
import Derived.RowKit3
import Derived.Deep.LoopGhost
import Derived.Deep.QuietTactic
import Derived.BigQuiet
import Derived.WideLaws
import Derived.Deep.DeepCutAuto
import Derived.Deep.CutBlock
import Derived.Deep.RegionHeld3
import Derived.Laws.Rows
import Derived.Lib.AppendStr
import Derived.ArgAppend
import Derived.Laws.IdiomCopy
import Derived.OrdersHeld
import Derived.Laws.BitsLemmas
import Derived.RowKit
import Derived.Test.YtkdmmaeblknlnaaDoorNumRead
import Derived.Test.YtkdmmaeblknlnaaDoorWWords
import Derived.Test.YtkdmmaeblknlnaaDoorWLast
import Derived.Test.YtkdmmaeblknlnaaDoorWTab
import Derived.Test.YtkdmmaeblknlnaaDoorWFour
import Derived.Test.YtkdmmaeblknlnaaDoorWQPut
import Derived.Test.YtkdmmaeblknlnaaDoorWApart
import Derived.Test.YtkdmmaeblknlnaaDoorWArr
import Derived.Test.YtkdmmaeblknlnaaDoorWZeros
import Derived.Test.YtkdmmaeblknlnaaDoorWFoot
import Derived.Test.YtkdmmaeblknlnaaDoorWKept
import Derived.Test.YtkdmmaeblknlnaaDoorWShare
import Derived.Test.YtkdmmaeblknlnaaDoorWN
import Derived.Test.YtkdmmaeblknlnaaDoorWFootNe
import Derived.Test.YtkdmmaeblknlnaaDoorWAt
import Derived.Test.YtkdmmaeblknlnaaDoorWEqStruct
import Derived.Test.YtkdmmaeblknlnaaDoorWRepsOne
import Derived.Test.YtkdmmaeblknlnaaDoorWInv
import Derived.Test.YtkdmmaeblknlnaaDoorWInvWords
import Derived.Test.YtkdmmaeblknlnaaDoorWGuard
import Derived.Test.YtkdmmaeblknlnaaDoorWNEv
import Derived.Test.YtkdmmaeblknlnaaDoorWMore
namespace Go.Proofs.YtkdmmaeblknlnaaDoor.PFnNumbers
open Go.RowKit Go.Proofs.YtkdmmaeblknlnaaDoorW.PrintWords Go.Proofs.YtkdmmaeblknlnaaDoorW.PrintLast Go.Proofs.YtkdmmaeblknlnaaDoorW.PrintMore
attribute [local go_sem] max2_int min2_int max_two min_two max_three min_three max_four min_four   -- for this text's walks alone
set_option linter.unusedVariables false
set_option linter.unusedSimpArgs false



def errW : Option Int → Value
  | none => .nilIface
  | some c => .iface 0 (.int .i64 c)
theorem errW_none : errW none = .nilIface := rfl
theorem errW_some (c : Int) : errW (some c) = .iface 0 (.int .i64 c) := rfl

theorem info3 : (Tryd.prog.info? 3).map (fun i => (i.zero, i.size, i.bytes)) = some (some (.int .i64 0), 1, 8) := by kernel_rfl
theorem info5 : (Tryd.prog.info? 5).map (fun i => (i.zero, i.size, i.bytes)) = some (some (.int .u8 0), 1, 1) := by kernel_rfl
-- the values' own types

end Go.Proofs.YtkdmmaeblknlnaaDoor.PFnNumbers
