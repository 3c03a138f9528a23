-- PRINTED BY print.sh 35421559b90ae4d0a3588c463048766b98c2df88dd9212a6774a882060cdf62d: not written by this session
import Derived.Test.YtmlbbikmgnipmabProg
import Derived.Below
import Derived.Deep.Draws
import Derived.Deep.AppendLies
import Derived.Maps.AppendAt
import Derived.OwnWalk
import Derived.Laws.BytesArg
import Derived.Laws.MakeOwn
import Derived.Laws.OwnMore
import Derived.Deep.OwnRows
import Derived.Tactics
import Derived.Lib.ConvBytes
import Derived.Laws.Slices
import Derived.WalkKit
import Derived.KernelRfl
import Derived.RowKit3
import Derived.Deep.LoopGhost
import Derived.Deep.QuietTactic
import Derived.BigQuiet
import Derived.WideLaws
import Derived.Deep.DeepCutAuto
import Derived.Deep.CutBlock
import Derived.Deep.RegionHeld3
import Derived.Laws.Rows
import Derived.Lib.AppendStr
import Derived.ArgAppend
import Derived.Laws.IdiomCopy
import Derived.OrdersHeld
import Derived.Laws.BitsLemmas
import Derived.RowKit
import Derived.Test.YtmlbbikmgnipmabWWords
import Derived.Test.YtmlbbikmgnipmabWLast
import Derived.Test.YtmlbbikmgnipmabWTab
import Derived.Test.YtmlbbikmgnipmabWFour
import Derived.Test.YtmlbbikmgnipmabWQPut
import Derived.Test.YtmlbbikmgnipmabWApart
import Derived.Test.YtmlbbikmgnipmabWArr
import Derived.Test.YtmlbbikmgnipmabWZeros
import Derived.Test.YtmlbbikmgnipmabWFoot
import Derived.Test.YtmlbbikmgnipmabWKept
import Derived.Test.YtmlbbikmgnipmabWShare
import Derived.Test.YtmlbbikmgnipmabWN
import Derived.Test.YtmlbbikmgnipmabWFootNe
import Derived.Test.YtmlbbikmgnipmabWAt
import Derived.Test.YtmlbbikmgnipmabWEqStruct
import Derived.Test.YtmlbbikmgnipmabWRepsOne
import Derived.Test.YtmlbbikmgnipmabWInv
import Derived.Test.YtmlbbikmgnipmabWInvWords
import Derived.Test.YtmlbbikmgnipmabWGuard
import Derived.Test.YtmlbbikmgnipmabWNEv
import Derived.Test.YtmlbbikmgnipmabWMore
namespace Go.Proofs.Ytmlbbikmgnipmab.PFnExactReadVar
open Go.RowKit Go.Proofs.YtmlbbikmgnipmabW.PrintWords Go.Proofs.YtmlbbikmgnipmabW.PrintLast Go.Proofs.YtmlbbikmgnipmabW.PrintMore
attribute [local go_sem] max2_int min2_int max_two min_two max_three min_three max_four min_four   -- for this text's walks alone
set_option linter.unusedVariables false
set_option linter.unusedSimpArgs false



def errW : Option Int → Value
  | none => .nilIface
  | some c => .iface 0 (.int .i64 c)
theorem errW_none : errW none = .nilIface := rfl
theorem errW_some (c : Int) : errW (some c) = .iface 0 (.int .i64 c) := rfl

theorem info5 : (Try.prog.info? 5).map (fun i => (i.zero, i.size, i.bytes)) = some (some (.int .u8 0), 1, 1) := by kernel_rfl
-- the values' own types

end Go.Proofs.Ytmlbbikmgnipmab.PFnExactReadVar
