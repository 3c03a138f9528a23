/-
  No cell of these rows narrows 'for every input' (looked for: loops, veiled, ifaces, maps, wideKeys, modest, calm, conditions, laid).
  DERIVED. THE GIVEN ROWS OF THIS SEAT. 8 by the template 'for every input the law returns true; each argument reads behind the call as it read before'; 0 by the template 'total and deterministic' (their statements: YtmocccmffmacdaaTotals.lean).
  GIVEN WITH THE SEED: the statements are not yours to turn. If you find one false, say at which input.
  Laid BY PROGRAM, IN A SANDBOX (cutbox-rows.mjs): the forced cells as the released guide's own fill.sh prints them over the translation 930076e2d0500911… (all of the seat's roots in one cut). By AI agents, Wed Nov 11 2026. No macro, syntax, notation, axiom, sorry.
-/
import Derived.Test.YtmocccmffmacdaaChecked
import GoSem.Claim
import GoSem.ClaimJoined
import GoSem.ClaimMapViews
import Derived.JoinedTies
import Derived.KernelRfl
namespace Go.Proofs.Ytmocccmffmacdaa
/- THE CELL 'sum', in the pinned program and in every row, IS THE sha256 OF THE DUMP (.gsa) THAT YtmocccmffmacdaaProg.lean LOADS. Nothing in Lean hashes anything: it is a label: what it is worth is what the hold of that sum in a sandbox is worth. -/
noncomputable def Try.pinned : Pinned := { name := "ytmocccmffmacdaa", sum := "930076e2d050091170ddc48169357f8e6f2f589ac6312781a3bb75f31bf06757", checked := Try.checked }
namespace Rows
def none {H : Type} : Left H := { results := [], args := [] }

/-- 'laws.FnExactPermute': WHATEVER THE INPUT: true; the input reads as it did. -/
def fnExactPermuteSpec : ChangeSpec := { name := "fnExactPermute", fn := fun _ => fun
  | [d] => { results := [.lit (.bool true)], args := [d] }
  | _ => none }
def fnExactPermuteRow : OpenClaim := { program := "ytmocccmffmacdaa", sum := "930076e2d050091170ddc48169357f8e6f2f589ac6312781a3bb75f31bf06757", func := "loop.example/g00186/laws.FnExactPermute", spec := "fnExactPermute", apart := false }
def FnExactPermuteSaid : Prop := fnExactPermuteRow.holds Try.pinned (OpenSpec.ofChange fnExactPermuteSpec)

/-- ITS FALSE NEIGHBOUR: 'it returns false'. Refute it at one input. -/
def fnExactPermuteWrong : ChangeSpec := { name := "fnExactPermute", fn := fun _ => fun
  | [d] => { results := [.lit (.bool false)], args := [d] }
  | _ => none }
def FnExactPermuteWrongFalsely : Prop := fnExactPermuteRow.holds Try.pinned (OpenSpec.ofChange fnExactPermuteWrong)

/-- 'laws.FnExactShakeOf': WHATEVER THE INPUT: true; the input reads as it did. -/
def fnExactShakeOfSpec : ChangeSpec := { name := "fnExactShakeOf", fn := fun _ => fun
  | [d1, d2] => { results := [.lit (.bool true)], args := [d1, d2] }
  | _ => none }
def fnExactShakeOfRow : OpenClaim := { program := "ytmocccmffmacdaa", sum := "930076e2d050091170ddc48169357f8e6f2f589ac6312781a3bb75f31bf06757", func := "loop.example/g00186/laws.FnExactShakeOf", spec := "fnExactShakeOf", apart := false }
def FnExactShakeOfSaid : Prop := fnExactShakeOfRow.holds Try.pinned (OpenSpec.ofChange fnExactShakeOfSpec)

/-- ITS FALSE NEIGHBOUR: 'it returns false'. Refute it at one input. -/
def fnExactShakeOfWrong : ChangeSpec := { name := "fnExactShakeOf", fn := fun _ => fun
  | [d1, d2] => { results := [.lit (.bool false)], args := [d1, d2] }
  | _ => none }
def FnExactShakeOfWrongFalsely : Prop := fnExactShakeOfRow.holds Try.pinned (OpenSpec.ofChange fnExactShakeOfWrong)

/-- 'laws.FnExactSha3Of': WHATEVER THE INPUT: true; the input reads as it did. -/
def fnExactSha3OfSpec : ChangeSpec := { name := "fnExactSha3Of", fn := fun _ => fun
  | [d] => { results := [.lit (.bool true)], args := [d] }
  | _ => none }
def fnExactSha3OfRow : OpenClaim := { program := "ytmocccmffmacdaa", sum := "930076e2d050091170ddc48169357f8e6f2f589ac6312781a3bb75f31bf06757", func := "loop.example/g00186/laws.FnExactSha3Of", spec := "fnExactSha3Of", apart := false }
def FnExactSha3OfSaid : Prop := fnExactSha3OfRow.holds Try.pinned (OpenSpec.ofChange fnExactSha3OfSpec)

/-- ITS FALSE NEIGHBOUR: 'it returns false'. Refute it at one input. -/
def fnExactSha3OfWrong : ChangeSpec := { name := "fnExactSha3Of", fn := fun _ => fun
  | [d] => { results := [.lit (.bool false)], args := [d] }
  | _ => none }
def FnExactSha3OfWrongFalsely : Prop := fnExactSha3OfRow.holds Try.pinned (OpenSpec.ofChange fnExactSha3OfWrong)

/-- 'laws.FnExactStreamNew': WHATEVER THE INPUT: true; the input reads as it did. -/
def fnExactStreamNewSpec : ChangeSpec := { name := "fnExactStreamNew", fn := fun _ => fun
  | [d] => { results := [.lit (.bool true)], args := [d] }
  | _ => none }
def fnExactStreamNewRow : OpenClaim := { program := "ytmocccmffmacdaa", sum := "930076e2d050091170ddc48169357f8e6f2f589ac6312781a3bb75f31bf06757", func := "loop.example/g00186/laws.FnExactStreamNew", spec := "fnExactStreamNew", apart := false }
def FnExactStreamNewSaid : Prop := fnExactStreamNewRow.holds Try.pinned (OpenSpec.ofChange fnExactStreamNewSpec)

/-- ITS FALSE NEIGHBOUR: 'it returns false'. Refute it at one input. -/
def fnExactStreamNewWrong : ChangeSpec := { name := "fnExactStreamNew", fn := fun _ => fun
  | [d] => { results := [.lit (.bool false)], args := [d] }
  | _ => none }
def FnExactStreamNewWrongFalsely : Prop := fnExactStreamNewRow.holds Try.pinned (OpenSpec.ofChange fnExactStreamNewWrong)

/-- 'laws.FnExactStreamTake': WHATEVER THE INPUT: true; the input reads as it did. -/
def fnExactStreamTakeSpec : ChangeSpec := { name := "fnExactStreamTake", fn := fun _ => fun
  | [d1, d2] => { results := [.lit (.bool true)], args := [d1, d2] }
  | _ => none }
def fnExactStreamTakeRow : OpenClaim := { program := "ytmocccmffmacdaa", sum := "930076e2d050091170ddc48169357f8e6f2f589ac6312781a3bb75f31bf06757", func := "loop.example/g00186/laws.FnExactStreamTake", spec := "fnExactStreamTake", apart := false }
def FnExactStreamTakeSaid : Prop := fnExactStreamTakeRow.holds Try.pinned (OpenSpec.ofChange fnExactStreamTakeSpec)

/-- ITS FALSE NEIGHBOUR: 'it returns false'. Refute it at one input. -/
def fnExactStreamTakeWrong : ChangeSpec := { name := "fnExactStreamTake", fn := fun _ => fun
  | [d1, d2] => { results := [.lit (.bool false)], args := [d1, d2] }
  | _ => none }
def FnExactStreamTakeWrongFalsely : Prop := fnExactStreamTakeRow.holds Try.pinned (OpenSpec.ofChange fnExactStreamTakeWrong)

/-- 'laws.FnSponges': WHATEVER THE INPUT: true; the input reads as it did. -/
def fnSpongesSpec : ChangeSpec := { name := "fnSponges", fn := fun _ => fun
  | [d] => { results := [.lit (.bool true)], args := [d] }
  | _ => none }
def fnSpongesRow : OpenClaim := { program := "ytmocccmffmacdaa", sum := "930076e2d050091170ddc48169357f8e6f2f589ac6312781a3bb75f31bf06757", func := "loop.example/g00186/laws.FnSponges", spec := "fnSponges", apart := false }
def FnSpongesSaid : Prop := fnSpongesRow.holds Try.pinned (OpenSpec.ofChange fnSpongesSpec)

/-- ITS FALSE NEIGHBOUR: 'it returns false'. Refute it at one input. -/
def fnSpongesWrong : ChangeSpec := { name := "fnSponges", fn := fun _ => fun
  | [d] => { results := [.lit (.bool false)], args := [d] }
  | _ => none }
def FnSpongesWrongFalsely : Prop := fnSpongesRow.holds Try.pinned (OpenSpec.ofChange fnSpongesWrong)

/-- 'laws.FnPermutes': WHATEVER THE INPUT: true; the input reads as it did. -/
def fnPermutesSpec : ChangeSpec := { name := "fnPermutes", fn := fun _ => fun
  | [d] => { results := [.lit (.bool true)], args := [d] }
  | _ => none }
def fnPermutesRow : OpenClaim := { program := "ytmocccmffmacdaa", sum := "930076e2d050091170ddc48169357f8e6f2f589ac6312781a3bb75f31bf06757", func := "loop.example/g00186/laws.FnPermutes", spec := "fnPermutes", apart := false }
def FnPermutesSaid : Prop := fnPermutesRow.holds Try.pinned (OpenSpec.ofChange fnPermutesSpec)

/-- ITS FALSE NEIGHBOUR: 'it returns false'. Refute it at one input. -/
def fnPermutesWrong : ChangeSpec := { name := "fnPermutes", fn := fun _ => fun
  | [d] => { results := [.lit (.bool false)], args := [d] }
  | _ => none }
def FnPermutesWrongFalsely : Prop := fnPermutesRow.holds Try.pinned (OpenSpec.ofChange fnPermutesWrong)

/-- 'laws.FnSha3': WHATEVER THE INPUT: true; the input reads as it did. -/
def fnSha3Spec : ChangeSpec := { name := "fnSha3", fn := fun _ => fun
  | [d] => { results := [.lit (.bool true)], args := [d] }
  | _ => none }
def fnSha3Row : OpenClaim := { program := "ytmocccmffmacdaa", sum := "930076e2d050091170ddc48169357f8e6f2f589ac6312781a3bb75f31bf06757", func := "loop.example/g00186/laws.FnSha3", spec := "fnSha3", apart := false }
def FnSha3Said : Prop := fnSha3Row.holds Try.pinned (OpenSpec.ofChange fnSha3Spec)

/-- ITS FALSE NEIGHBOUR: 'it returns false'. Refute it at one input. -/
def fnSha3Wrong : ChangeSpec := { name := "fnSha3", fn := fun _ => fun
  | [d] => { results := [.lit (.bool false)], args := [d] }
  | _ => none }
def FnSha3WrongFalsely : Prop := fnSha3Row.holds Try.pinned (OpenSpec.ofChange fnSha3Wrong)

/- THE SECOND FORM. 'bulk': how many values and letters a reading holds, each counted each time it is reached (what is shared counts as often as it is met; a slice's spare places count too). A statement '..UptoSaid' is the law's where the arguments, and the package variables that the reading takes, are together of bulk at most 1048576: NARROWER than '..Said'. Prove '..Said' where nothing that the law and all that it calls make is longer than what came in: it says more and counts as full. Else prove '..UptoSaid'. A law counts once. -/
mutual
def uptoBulk {H : Type} : DataW H → Nat
  | .lit (.string bytes) => bytes.length + 1
  | .lit _ => 1
  | .nil => 1
  | .ptr d => uptoBulk d + 1
  | .slice elems spare => uptoBulkAll elems + uptoBulkAll spare + 1
  | .agg parts => uptoBulkAll parts + 1
  | .iface _ d => uptoBulk d + 1
  | .map entries => uptoBulkEntries entries + 1
  | .held _ => 1
def uptoBulkAll {H : Type} : List (DataW H) → Nat
  | [] => 0
  | d :: r => uptoBulk d + uptoBulkAll r
def uptoBulkEntries {H : Type} : List (Lit × DataW H) → Nat
  | [] => 0
  | x :: r => uptoBulkEntry x + uptoBulkEntries r
def uptoBulkEntry {H : Type} : Lit × DataW H → Nat
  | (.string bytes, d) => bytes.length + uptoBulk d + 1
  | (_, d) => uptoBulk d + 1
 end
def uptoSmall : (H : Type) → List (DataW H) → Bool := fun _ ds => decide (uptoBulkAll ds ≤ 1048576)
def OpenSpec.upto (s : _root_.Go.ChangeSpec) : _root_.Go.OpenSpec := { _root_.Go.OpenSpec.ofChange s with cond := some uptoSmall }

/-- 'laws.FnExactPermute', WHERE WHAT IT READS IS OF BULK AT MOST 1048576: true; the input reads as it did. -/
def fnExactPermuteUptoRow : OpenClaim := { program := "ytmocccmffmacdaa", sum := "930076e2d050091170ddc48169357f8e6f2f589ac6312781a3bb75f31bf06757", func := "loop.example/g00186/laws.FnExactPermute", spec := "fnExactPermute", apart := false, narrowed := true }
def FnExactPermuteUptoSaid : Prop := fnExactPermuteUptoRow.holds Try.pinned (OpenSpec.upto fnExactPermuteSpec)

/-- 'laws.FnExactShakeOf', WHERE WHAT IT READS IS OF BULK AT MOST 1048576: true; the input reads as it did. -/
def fnExactShakeOfUptoRow : OpenClaim := { program := "ytmocccmffmacdaa", sum := "930076e2d050091170ddc48169357f8e6f2f589ac6312781a3bb75f31bf06757", func := "loop.example/g00186/laws.FnExactShakeOf", spec := "fnExactShakeOf", apart := false, narrowed := true }
def FnExactShakeOfUptoSaid : Prop := fnExactShakeOfUptoRow.holds Try.pinned (OpenSpec.upto fnExactShakeOfSpec)

/-- 'laws.FnExactSha3Of', WHERE WHAT IT READS IS OF BULK AT MOST 1048576: true; the input reads as it did. -/
def fnExactSha3OfUptoRow : OpenClaim := { program := "ytmocccmffmacdaa", sum := "930076e2d050091170ddc48169357f8e6f2f589ac6312781a3bb75f31bf06757", func := "loop.example/g00186/laws.FnExactSha3Of", spec := "fnExactSha3Of", apart := false, narrowed := true }
def FnExactSha3OfUptoSaid : Prop := fnExactSha3OfUptoRow.holds Try.pinned (OpenSpec.upto fnExactSha3OfSpec)

/-- 'laws.FnExactStreamNew', WHERE WHAT IT READS IS OF BULK AT MOST 1048576: true; the input reads as it did. -/
def fnExactStreamNewUptoRow : OpenClaim := { program := "ytmocccmffmacdaa", sum := "930076e2d050091170ddc48169357f8e6f2f589ac6312781a3bb75f31bf06757", func := "loop.example/g00186/laws.FnExactStreamNew", spec := "fnExactStreamNew", apart := false, narrowed := true }
def FnExactStreamNewUptoSaid : Prop := fnExactStreamNewUptoRow.holds Try.pinned (OpenSpec.upto fnExactStreamNewSpec)

/-- 'laws.FnExactStreamTake', WHERE WHAT IT READS IS OF BULK AT MOST 1048576: true; the input reads as it did. -/
def fnExactStreamTakeUptoRow : OpenClaim := { program := "ytmocccmffmacdaa", sum := "930076e2d050091170ddc48169357f8e6f2f589ac6312781a3bb75f31bf06757", func := "loop.example/g00186/laws.FnExactStreamTake", spec := "fnExactStreamTake", apart := false, narrowed := true }
def FnExactStreamTakeUptoSaid : Prop := fnExactStreamTakeUptoRow.holds Try.pinned (OpenSpec.upto fnExactStreamTakeSpec)

/-- 'laws.FnSponges', WHERE WHAT IT READS IS OF BULK AT MOST 1048576: true; the input reads as it did. -/
def fnSpongesUptoRow : OpenClaim := { program := "ytmocccmffmacdaa", sum := "930076e2d050091170ddc48169357f8e6f2f589ac6312781a3bb75f31bf06757", func := "loop.example/g00186/laws.FnSponges", spec := "fnSponges", apart := false, narrowed := true }
def FnSpongesUptoSaid : Prop := fnSpongesUptoRow.holds Try.pinned (OpenSpec.upto fnSpongesSpec)

/-- 'laws.FnPermutes', WHERE WHAT IT READS IS OF BULK AT MOST 1048576: true; the input reads as it did. -/
def fnPermutesUptoRow : OpenClaim := { program := "ytmocccmffmacdaa", sum := "930076e2d050091170ddc48169357f8e6f2f589ac6312781a3bb75f31bf06757", func := "loop.example/g00186/laws.FnPermutes", spec := "fnPermutes", apart := false, narrowed := true }
def FnPermutesUptoSaid : Prop := fnPermutesUptoRow.holds Try.pinned (OpenSpec.upto fnPermutesSpec)

/-- 'laws.FnSha3', WHERE WHAT IT READS IS OF BULK AT MOST 1048576: true; the input reads as it did. -/
def fnSha3UptoRow : OpenClaim := { program := "ytmocccmffmacdaa", sum := "930076e2d050091170ddc48169357f8e6f2f589ac6312781a3bb75f31bf06757", func := "loop.example/g00186/laws.FnSha3", spec := "fnSha3", apart := false, narrowed := true }
def FnSha3UptoSaid : Prop := fnSha3UptoRow.holds Try.pinned (OpenSpec.upto fnSha3Spec)

end Rows
end Go.Proofs.Ytmocccmffmacdaa
