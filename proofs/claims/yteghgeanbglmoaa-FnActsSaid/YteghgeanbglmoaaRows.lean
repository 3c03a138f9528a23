/-
  No cell of these rows narrows 'for every input' (looked for: loops, veiled, ifaces, maps, wideKeys, modest, calm, conditions, laid).
  DERIVED. THE GIVEN ROWS OF THIS SEAT. 9 by the template 'for every input the law returns true; each argument reads behind the call as it read before'; 0 by the template 'total and deterministic' (their statements: YteghgeanbglmoaaTotals.lean).
  GIVEN WITH THE SEED: the statements are not yours to turn. If you find one false, say at which input.
  Laid BY PROGRAM, IN A SANDBOX (cutbox-rows.mjs): the forced cells as the released guide's own fill.sh prints them over the translation effd35c06364089c… (all of the seat's roots in one cut). By AI agents, Wed Nov 11 2026. No macro, syntax, notation, axiom, sorry.
-/
import Derived.Test.YteghgeanbglmoaaChecked
import GoSem.Claim
import GoSem.ClaimJoined
import GoSem.ClaimMapViews
import Derived.JoinedTies
import Derived.KernelRfl
namespace Go.Proofs.Yteghgeanbglmoaa
/- THE CELL 'sum', in the pinned program and in every row, IS THE sha256 OF THE DUMP (.gsa) THAT YteghgeanbglmoaaProg.lean LOADS. Nothing in Lean hashes anything: it is a label: what it is worth is what the hold of that sum in a sandbox is worth. -/
noncomputable def Try.pinned : Pinned := { name := "yteghgeanbglmoaa", sum := "effd35c06364089c9f62f47780422d497644767e449eda12b99b729bbf1208fe", checked := Try.checked }
namespace Rows
def none {H : Type} : Left H := { results := [], args := [] }

/-- 'laws.FnExactDiskOk': WHATEVER THE INPUT: true; the input reads as it did. -/
def fnExactDiskOkSpec : ChangeSpec := { name := "fnExactDiskOk", fn := fun _ => fun
  | [d] => { results := [.lit (.bool true)], args := [d] }
  | _ => none }
def fnExactDiskOkRow : OpenClaim := { program := "yteghgeanbglmoaa", sum := "effd35c06364089c9f62f47780422d497644767e449eda12b99b729bbf1208fe", func := "loop.example/g00186/laws.FnExactDiskOk", spec := "fnExactDiskOk", apart := false }
def FnExactDiskOkSaid : Prop := fnExactDiskOkRow.holds Try.pinned (OpenSpec.ofChange fnExactDiskOkSpec)

/-- ITS FALSE NEIGHBOUR: 'it returns false'. Refute it at one input. -/
def fnExactDiskOkWrong : ChangeSpec := { name := "fnExactDiskOk", fn := fun _ => fun
  | [d] => { results := [.lit (.bool false)], args := [d] }
  | _ => none }
def FnExactDiskOkWrongFalsely : Prop := fnExactDiskOkRow.holds Try.pinned (OpenSpec.ofChange fnExactDiskOkWrong)

/-- 'laws.FnExactFileAt': WHATEVER THE INPUT: true; the input reads as it did. -/
def fnExactFileAtSpec : ChangeSpec := { name := "fnExactFileAt", fn := fun _ => fun
  | [d1, d2] => { results := [.lit (.bool true)], args := [d1, d2] }
  | _ => none }
def fnExactFileAtRow : OpenClaim := { program := "yteghgeanbglmoaa", sum := "effd35c06364089c9f62f47780422d497644767e449eda12b99b729bbf1208fe", func := "loop.example/g00186/laws.FnExactFileAt", spec := "fnExactFileAt", apart := false }
def FnExactFileAtSaid : Prop := fnExactFileAtRow.holds Try.pinned (OpenSpec.ofChange fnExactFileAtSpec)

/-- ITS FALSE NEIGHBOUR: 'it returns false'. Refute it at one input. -/
def fnExactFileAtWrong : ChangeSpec := { name := "fnExactFileAt", fn := fun _ => fun
  | [d1, d2] => { results := [.lit (.bool false)], args := [d1, d2] }
  | _ => none }
def FnExactFileAtWrongFalsely : Prop := fnExactFileAtRow.holds Try.pinned (OpenSpec.ofChange fnExactFileAtWrong)

/-- 'laws.FnExactAllKept': WHATEVER THE INPUT: true; the input reads as it did. -/
def fnExactAllKeptSpec : ChangeSpec := { name := "fnExactAllKept", fn := fun _ => fun
  | [d] => { results := [.lit (.bool true)], args := [d] }
  | _ => none }
def fnExactAllKeptRow : OpenClaim := { program := "yteghgeanbglmoaa", sum := "effd35c06364089c9f62f47780422d497644767e449eda12b99b729bbf1208fe", func := "loop.example/g00186/laws.FnExactAllKept", spec := "fnExactAllKept", apart := false }
def FnExactAllKeptSaid : Prop := fnExactAllKeptRow.holds Try.pinned (OpenSpec.ofChange fnExactAllKeptSpec)

/-- ITS FALSE NEIGHBOUR: 'it returns false'. Refute it at one input. -/
def fnExactAllKeptWrong : ChangeSpec := { name := "fnExactAllKept", fn := fun _ => fun
  | [d] => { results := [.lit (.bool false)], args := [d] }
  | _ => none }
def FnExactAllKeptWrongFalsely : Prop := fnExactAllKeptRow.holds Try.pinned (OpenSpec.ofChange fnExactAllKeptWrong)

/-- 'laws.FnExactDoAct': WHATEVER THE INPUT: true; the input reads as it did. -/
def fnExactDoActSpec : ChangeSpec := { name := "fnExactDoAct", fn := fun _ => fun
  | [d1, d2] => { results := [.lit (.bool true)], args := [d1, d2] }
  | _ => none }
def fnExactDoActRow : OpenClaim := { program := "yteghgeanbglmoaa", sum := "effd35c06364089c9f62f47780422d497644767e449eda12b99b729bbf1208fe", func := "loop.example/g00186/laws.FnExactDoAct", spec := "fnExactDoAct", apart := false }
def FnExactDoActSaid : Prop := fnExactDoActRow.holds Try.pinned (OpenSpec.ofChange fnExactDoActSpec)

/-- ITS FALSE NEIGHBOUR: 'it returns false'. Refute it at one input. -/
def fnExactDoActWrong : ChangeSpec := { name := "fnExactDoAct", fn := fun _ => fun
  | [d1, d2] => { results := [.lit (.bool false)], args := [d1, d2] }
  | _ => none }
def FnExactDoActWrongFalsely : Prop := fnExactDoActRow.holds Try.pinned (OpenSpec.ofChange fnExactDoActWrong)

/-- 'laws.FnExactDoActs': WHATEVER THE INPUT: true; the input reads as it did. -/
def fnExactDoActsSpec : ChangeSpec := { name := "fnExactDoActs", fn := fun _ => fun
  | [d1, d2] => { results := [.lit (.bool true)], args := [d1, d2] }
  | _ => none }
def fnExactDoActsRow : OpenClaim := { program := "yteghgeanbglmoaa", sum := "effd35c06364089c9f62f47780422d497644767e449eda12b99b729bbf1208fe", func := "loop.example/g00186/laws.FnExactDoActs", spec := "fnExactDoActs", apart := false }
def FnExactDoActsSaid : Prop := fnExactDoActsRow.holds Try.pinned (OpenSpec.ofChange fnExactDoActsSpec)

/-- ITS FALSE NEIGHBOUR: 'it returns false'. Refute it at one input. -/
def fnExactDoActsWrong : ChangeSpec := { name := "fnExactDoActs", fn := fun _ => fun
  | [d1, d2] => { results := [.lit (.bool false)], args := [d1, d2] }
  | _ => none }
def FnExactDoActsWrongFalsely : Prop := fnExactDoActsRow.holds Try.pinned (OpenSpec.ofChange fnExactDoActsWrong)

/-- 'laws.FnExactLoseDisk': WHATEVER THE INPUT: true; the input reads as it did. -/
def fnExactLoseDiskSpec : ChangeSpec := { name := "fnExactLoseDisk", fn := fun _ => fun
  | [d1, d2] => { results := [.lit (.bool true)], args := [d1, d2] }
  | _ => none }
def fnExactLoseDiskRow : OpenClaim := { program := "yteghgeanbglmoaa", sum := "effd35c06364089c9f62f47780422d497644767e449eda12b99b729bbf1208fe", func := "loop.example/g00186/laws.FnExactLoseDisk", spec := "fnExactLoseDisk", apart := false }
def FnExactLoseDiskSaid : Prop := fnExactLoseDiskRow.holds Try.pinned (OpenSpec.ofChange fnExactLoseDiskSpec)

/-- ITS FALSE NEIGHBOUR: 'it returns false'. Refute it at one input. -/
def fnExactLoseDiskWrong : ChangeSpec := { name := "fnExactLoseDisk", fn := fun _ => fun
  | [d1, d2] => { results := [.lit (.bool false)], args := [d1, d2] }
  | _ => none }
def FnExactLoseDiskWrongFalsely : Prop := fnExactLoseDiskRow.holds Try.pinned (OpenSpec.ofChange fnExactLoseDiskWrong)

/-- 'laws.FnExactCutActs': WHATEVER THE INPUT: true; the input reads as it did. -/
def fnExactCutActsSpec : ChangeSpec := { name := "fnExactCutActs", fn := fun _ => fun
  | [d1, d2, d3, d4] => { results := [.lit (.bool true)], args := [d1, d2, d3, d4] }
  | _ => none }
def fnExactCutActsRow : OpenClaim := { program := "yteghgeanbglmoaa", sum := "effd35c06364089c9f62f47780422d497644767e449eda12b99b729bbf1208fe", func := "loop.example/g00186/laws.FnExactCutActs", spec := "fnExactCutActs", apart := false }
def FnExactCutActsSaid : Prop := fnExactCutActsRow.holds Try.pinned (OpenSpec.ofChange fnExactCutActsSpec)

/-- ITS FALSE NEIGHBOUR: 'it returns false'. Refute it at one input. -/
def fnExactCutActsWrong : ChangeSpec := { name := "fnExactCutActs", fn := fun _ => fun
  | [d1, d2, d3, d4] => { results := [.lit (.bool false)], args := [d1, d2, d3, d4] }
  | _ => none }
def FnExactCutActsWrongFalsely : Prop := fnExactCutActsRow.holds Try.pinned (OpenSpec.ofChange fnExactCutActsWrong)

/-- 'laws.FnKeeps': WHATEVER THE INPUT: true; the input reads as it did. -/
def fnKeepsSpec : ChangeSpec := { name := "fnKeeps", fn := fun _ => fun
  | [d] => { results := [.lit (.bool true)], args := [d] }
  | _ => none }
def fnKeepsRow : OpenClaim := { program := "yteghgeanbglmoaa", sum := "effd35c06364089c9f62f47780422d497644767e449eda12b99b729bbf1208fe", func := "loop.example/g00186/laws.FnKeeps", spec := "fnKeeps", apart := false }
def FnKeepsSaid : Prop := fnKeepsRow.holds Try.pinned (OpenSpec.ofChange fnKeepsSpec)

/-- ITS FALSE NEIGHBOUR: 'it returns false'. Refute it at one input. -/
def fnKeepsWrong : ChangeSpec := { name := "fnKeeps", fn := fun _ => fun
  | [d] => { results := [.lit (.bool false)], args := [d] }
  | _ => none }
def FnKeepsWrongFalsely : Prop := fnKeepsRow.holds Try.pinned (OpenSpec.ofChange fnKeepsWrong)

/-- 'laws.FnActs': WHATEVER THE INPUT: true; the input reads as it did. -/
def fnActsSpec : ChangeSpec := { name := "fnActs", fn := fun _ => fun
  | [d] => { results := [.lit (.bool true)], args := [d] }
  | _ => none }
def fnActsRow : OpenClaim := { program := "yteghgeanbglmoaa", sum := "effd35c06364089c9f62f47780422d497644767e449eda12b99b729bbf1208fe", func := "loop.example/g00186/laws.FnActs", spec := "fnActs", apart := false }
def FnActsSaid : Prop := fnActsRow.holds Try.pinned (OpenSpec.ofChange fnActsSpec)

/-- ITS FALSE NEIGHBOUR: 'it returns false'. Refute it at one input. -/
def fnActsWrong : ChangeSpec := { name := "fnActs", fn := fun _ => fun
  | [d] => { results := [.lit (.bool false)], args := [d] }
  | _ => none }
def FnActsWrongFalsely : Prop := fnActsRow.holds Try.pinned (OpenSpec.ofChange fnActsWrong)

/- THE SECOND FORM. 'bulk': how many values and letters a reading holds, each counted each time it is reached (what is shared counts as often as it is met; a slice's spare places count too). A statement '..UptoSaid' is the law's where the arguments, and the package variables that the reading takes, are together of bulk at most 1048576: NARROWER than '..Said'. Prove '..Said' where nothing that the law and all that it calls make is longer than what came in: it says more and counts as full. Else prove '..UptoSaid'. A law counts once. -/
mutual
def uptoBulk {H : Type} : DataW H → Nat
  | .lit (.string bytes) => bytes.length + 1
  | .lit _ => 1
  | .nil => 1
  | .ptr d => uptoBulk d + 1
  | .slice elems spare => uptoBulkAll elems + uptoBulkAll spare + 1
  | .agg parts => uptoBulkAll parts + 1
  | .iface _ d => uptoBulk d + 1
  | .map entries => uptoBulkEntries entries + 1
  | .held _ => 1
def uptoBulkAll {H : Type} : List (DataW H) → Nat
  | [] => 0
  | d :: r => uptoBulk d + uptoBulkAll r
def uptoBulkEntries {H : Type} : List (Lit × DataW H) → Nat
  | [] => 0
  | x :: r => uptoBulkEntry x + uptoBulkEntries r
def uptoBulkEntry {H : Type} : Lit × DataW H → Nat
  | (.string bytes, d) => bytes.length + uptoBulk d + 1
  | (_, d) => uptoBulk d + 1
 end
def uptoSmall : (H : Type) → List (DataW H) → Bool := fun _ ds => decide (uptoBulkAll ds ≤ 1048576)
def OpenSpec.upto (s : _root_.Go.ChangeSpec) : _root_.Go.OpenSpec := { _root_.Go.OpenSpec.ofChange s with cond := some uptoSmall }

/-- 'laws.FnExactDiskOk', WHERE WHAT IT READS IS OF BULK AT MOST 1048576: true; the input reads as it did. -/
def fnExactDiskOkUptoRow : OpenClaim := { program := "yteghgeanbglmoaa", sum := "effd35c06364089c9f62f47780422d497644767e449eda12b99b729bbf1208fe", func := "loop.example/g00186/laws.FnExactDiskOk", spec := "fnExactDiskOk", apart := false, narrowed := true }
def FnExactDiskOkUptoSaid : Prop := fnExactDiskOkUptoRow.holds Try.pinned (OpenSpec.upto fnExactDiskOkSpec)

/-- 'laws.FnExactFileAt', WHERE WHAT IT READS IS OF BULK AT MOST 1048576: true; the input reads as it did. -/
def fnExactFileAtUptoRow : OpenClaim := { program := "yteghgeanbglmoaa", sum := "effd35c06364089c9f62f47780422d497644767e449eda12b99b729bbf1208fe", func := "loop.example/g00186/laws.FnExactFileAt", spec := "fnExactFileAt", apart := false, narrowed := true }
def FnExactFileAtUptoSaid : Prop := fnExactFileAtUptoRow.holds Try.pinned (OpenSpec.upto fnExactFileAtSpec)

/-- 'laws.FnExactAllKept', WHERE WHAT IT READS IS OF BULK AT MOST 1048576: true; the input reads as it did. -/
def fnExactAllKeptUptoRow : OpenClaim := { program := "yteghgeanbglmoaa", sum := "effd35c06364089c9f62f47780422d497644767e449eda12b99b729bbf1208fe", func := "loop.example/g00186/laws.FnExactAllKept", spec := "fnExactAllKept", apart := false, narrowed := true }
def FnExactAllKeptUptoSaid : Prop := fnExactAllKeptUptoRow.holds Try.pinned (OpenSpec.upto fnExactAllKeptSpec)

/-- 'laws.FnExactDoAct', WHERE WHAT IT READS IS OF BULK AT MOST 1048576: true; the input reads as it did. -/
def fnExactDoActUptoRow : OpenClaim := { program := "yteghgeanbglmoaa", sum := "effd35c06364089c9f62f47780422d497644767e449eda12b99b729bbf1208fe", func := "loop.example/g00186/laws.FnExactDoAct", spec := "fnExactDoAct", apart := false, narrowed := true }
def FnExactDoActUptoSaid : Prop := fnExactDoActUptoRow.holds Try.pinned (OpenSpec.upto fnExactDoActSpec)

/-- 'laws.FnExactDoActs', WHERE WHAT IT READS IS OF BULK AT MOST 1048576: true; the input reads as it did. -/
def fnExactDoActsUptoRow : OpenClaim := { program := "yteghgeanbglmoaa", sum := "effd35c06364089c9f62f47780422d497644767e449eda12b99b729bbf1208fe", func := "loop.example/g00186/laws.FnExactDoActs", spec := "fnExactDoActs", apart := false, narrowed := true }
def FnExactDoActsUptoSaid : Prop := fnExactDoActsUptoRow.holds Try.pinned (OpenSpec.upto fnExactDoActsSpec)

/-- 'laws.FnExactLoseDisk', WHERE WHAT IT READS IS OF BULK AT MOST 1048576: true; the input reads as it did. -/
def fnExactLoseDiskUptoRow : OpenClaim := { program := "yteghgeanbglmoaa", sum := "effd35c06364089c9f62f47780422d497644767e449eda12b99b729bbf1208fe", func := "loop.example/g00186/laws.FnExactLoseDisk", spec := "fnExactLoseDisk", apart := false, narrowed := true }
def FnExactLoseDiskUptoSaid : Prop := fnExactLoseDiskUptoRow.holds Try.pinned (OpenSpec.upto fnExactLoseDiskSpec)

/-- 'laws.FnExactCutActs', WHERE WHAT IT READS IS OF BULK AT MOST 1048576: true; the input reads as it did. -/
def fnExactCutActsUptoRow : OpenClaim := { program := "yteghgeanbglmoaa", sum := "effd35c06364089c9f62f47780422d497644767e449eda12b99b729bbf1208fe", func := "loop.example/g00186/laws.FnExactCutActs", spec := "fnExactCutActs", apart := false, narrowed := true }
def FnExactCutActsUptoSaid : Prop := fnExactCutActsUptoRow.holds Try.pinned (OpenSpec.upto fnExactCutActsSpec)

/-- 'laws.FnKeeps', WHERE WHAT IT READS IS OF BULK AT MOST 1048576: true; the input reads as it did. -/
def fnKeepsUptoRow : OpenClaim := { program := "yteghgeanbglmoaa", sum := "effd35c06364089c9f62f47780422d497644767e449eda12b99b729bbf1208fe", func := "loop.example/g00186/laws.FnKeeps", spec := "fnKeeps", apart := false, narrowed := true }
def FnKeepsUptoSaid : Prop := fnKeepsUptoRow.holds Try.pinned (OpenSpec.upto fnKeepsSpec)

/-- 'laws.FnActs', WHERE WHAT IT READS IS OF BULK AT MOST 1048576: true; the input reads as it did. -/
def fnActsUptoRow : OpenClaim := { program := "yteghgeanbglmoaa", sum := "effd35c06364089c9f62f47780422d497644767e449eda12b99b729bbf1208fe", func := "loop.example/g00186/laws.FnActs", spec := "fnActs", apart := false, narrowed := true }
def FnActsUptoSaid : Prop := fnActsUptoRow.holds Try.pinned (OpenSpec.upto fnActsSpec)

end Rows
end Go.Proofs.Yteghgeanbglmoaa
