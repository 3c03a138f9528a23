/-
  No cell of these rows narrows 'for every input' (looked for: loops, veiled, ifaces, maps, wideKeys, modest, calm, conditions, laid).
  DERIVED. THE GIVEN ROWS OF THIS SEAT. 6 by the template 'for every input the law returns true; each argument reads behind the call as it read before'; 0 by the template 'total and deterministic' (their statements: YtmlbbikmgnipmaaTotals.lean).
  GIVEN WITH THE SEED: the statements are not yours to turn. If you find one false, say at which input.
  Laid BY PROGRAM, IN A SANDBOX (cutbox-rows.mjs): the forced cells as the released guide's own fill.sh prints them over the translation 10d8568d2b79dc61… (all of the seat's roots in one cut). By AI agents, Wed Nov 11 2026. No macro, syntax, notation, axiom, sorry.
-/
import Derived.Test.YtmlbbikmgnipmaaChecked
import GoSem.Claim
import GoSem.ClaimJoined
import GoSem.ClaimMapViews
import Derived.JoinedTies
import Derived.KernelRfl
namespace Go.Proofs.Ytmlbbikmgnipmaa
/- THE CELL 'sum', in the pinned program and in every row, IS THE sha256 OF THE DUMP (.gsa) THAT YtmlbbikmgnipmaaProg.lean LOADS. Nothing in Lean hashes anything: it is a label: what it is worth is what the hold of that sum in a sandbox is worth. -/
noncomputable def Try.pinned : Pinned := { name := "ytmlbbikmgnipmaa", sum := "10d8568d2b79dc61eced09f834abcc4654608adba060aa9754a92d5480b5ffd2", checked := Try.checked }
namespace Rows
def none {H : Type} : Left H := { results := [], args := [] }

/-- 'laws.FnExactConstants': WHATEVER THE INPUT: true; the input reads as it did. -/
def fnExactConstantsSpec : ChangeSpec := { name := "fnExactConstants", fn := fun _ => fun
  | [] => { results := [.lit (.bool true)], args := [] }
  | _ => none }
def fnExactConstantsRow : OpenClaim := { program := "ytmlbbikmgnipmaa", sum := "10d8568d2b79dc61eced09f834abcc4654608adba060aa9754a92d5480b5ffd2", func := "loop.example/g00186/laws.FnExactConstants", spec := "fnExactConstants", apart := false }
def FnExactConstantsSaid : Prop := fnExactConstantsRow.holds Try.pinned (OpenSpec.ofChange fnExactConstantsSpec)

/-- ITS FALSE NEIGHBOUR: 'it returns false'. Refute it at one input. -/
def fnExactConstantsWrong : ChangeSpec := { name := "fnExactConstants", fn := fun _ => fun
  | [] => { results := [.lit (.bool false)], args := [] }
  | _ => none }
def FnExactConstantsWrongFalsely : Prop := fnExactConstantsRow.holds Try.pinned (OpenSpec.ofChange fnExactConstantsWrong)

/-- 'laws.FnExactSameMac': WHATEVER THE INPUT: true; the input reads as it did. -/
def fnExactSameMacSpec : ChangeSpec := { name := "fnExactSameMac", fn := fun _ => fun
  | [d1, d2] => { results := [.lit (.bool true)], args := [d1, d2] }
  | _ => none }
def fnExactSameMacRow : OpenClaim := { program := "ytmlbbikmgnipmaa", sum := "10d8568d2b79dc61eced09f834abcc4654608adba060aa9754a92d5480b5ffd2", func := "loop.example/g00186/laws.FnExactSameMac", spec := "fnExactSameMac", apart := false }
def FnExactSameMacSaid : Prop := fnExactSameMacRow.holds Try.pinned (OpenSpec.ofChange fnExactSameMacSpec)

/-- ITS FALSE NEIGHBOUR: 'it returns false'. Refute it at one input. -/
def fnExactSameMacWrong : ChangeSpec := { name := "fnExactSameMac", fn := fun _ => fun
  | [d1, d2] => { results := [.lit (.bool false)], args := [d1, d2] }
  | _ => none }
def FnExactSameMacWrongFalsely : Prop := fnExactSameMacRow.holds Try.pinned (OpenSpec.ofChange fnExactSameMacWrong)

/-- 'laws.FnExactTurn7': WHATEVER THE INPUT: true; the input reads as it did. -/
def fnExactTurn7Spec : ChangeSpec := { name := "fnExactTurn7", fn := fun _ => fun
  | [d] => { results := [.lit (.bool true)], args := [d] }
  | _ => none }
def fnExactTurn7Row : OpenClaim := { program := "ytmlbbikmgnipmaa", sum := "10d8568d2b79dc61eced09f834abcc4654608adba060aa9754a92d5480b5ffd2", func := "loop.example/g00186/laws.FnExactTurn7", spec := "fnExactTurn7", apart := false }
def FnExactTurn7Said : Prop := fnExactTurn7Row.holds Try.pinned (OpenSpec.ofChange fnExactTurn7Spec)

/-- ITS FALSE NEIGHBOUR: 'it returns false'. Refute it at one input. -/
def fnExactTurn7Wrong : ChangeSpec := { name := "fnExactTurn7", fn := fun _ => fun
  | [d] => { results := [.lit (.bool false)], args := [d] }
  | _ => none }
def FnExactTurn7WrongFalsely : Prop := fnExactTurn7Row.holds Try.pinned (OpenSpec.ofChange fnExactTurn7Wrong)

/-- 'laws.FnExactPoolOk': WHATEVER THE INPUT: true; the input reads as it did. -/
def fnExactPoolOkSpec : ChangeSpec := { name := "fnExactPoolOk", fn := fun _ => fun
  | [d] => { results := [.lit (.bool true)], args := [d] }
  | _ => none }
def fnExactPoolOkRow : OpenClaim := { program := "ytmlbbikmgnipmaa", sum := "10d8568d2b79dc61eced09f834abcc4654608adba060aa9754a92d5480b5ffd2", func := "loop.example/g00186/laws.FnExactPoolOk", spec := "fnExactPoolOk", apart := false }
def FnExactPoolOkSaid : Prop := fnExactPoolOkRow.holds Try.pinned (OpenSpec.ofChange fnExactPoolOkSpec)

/-- ITS FALSE NEIGHBOUR: 'it returns false'. Refute it at one input. -/
def fnExactPoolOkWrong : ChangeSpec := { name := "fnExactPoolOk", fn := fun _ => fun
  | [d] => { results := [.lit (.bool false)], args := [d] }
  | _ => none }
def FnExactPoolOkWrongFalsely : Prop := fnExactPoolOkRow.holds Try.pinned (OpenSpec.ofChange fnExactPoolOkWrong)

/-- 'laws.FnExactHasherOk': WHATEVER THE INPUT: true; the input reads as it did. -/
def fnExactHasherOkSpec : ChangeSpec := { name := "fnExactHasherOk", fn := fun _ => fun
  | [d] => { results := [.lit (.bool true)], args := [d] }
  | _ => none }
def fnExactHasherOkRow : OpenClaim := { program := "ytmlbbikmgnipmaa", sum := "10d8568d2b79dc61eced09f834abcc4654608adba060aa9754a92d5480b5ffd2", func := "loop.example/g00186/laws.FnExactHasherOk", spec := "fnExactHasherOk", apart := false }
def FnExactHasherOkSaid : Prop := fnExactHasherOkRow.holds Try.pinned (OpenSpec.ofChange fnExactHasherOkSpec)

/-- ITS FALSE NEIGHBOUR: 'it returns false'. Refute it at one input. -/
def fnExactHasherOkWrong : ChangeSpec := { name := "fnExactHasherOk", fn := fun _ => fun
  | [d] => { results := [.lit (.bool false)], args := [d] }
  | _ => none }
def FnExactHasherOkWrongFalsely : Prop := fnExactHasherOkRow.holds Try.pinned (OpenSpec.ofChange fnExactHasherOkWrong)

/-- 'laws.FnExactPolyOk': WHATEVER THE INPUT: true; the input reads as it did. -/
def fnExactPolyOkSpec : ChangeSpec := { name := "fnExactPolyOk", fn := fun _ => fun
  | [d] => { results := [.lit (.bool true)], args := [d] }
  | _ => none }
def fnExactPolyOkRow : OpenClaim := { program := "ytmlbbikmgnipmaa", sum := "10d8568d2b79dc61eced09f834abcc4654608adba060aa9754a92d5480b5ffd2", func := "loop.example/g00186/laws.FnExactPolyOk", spec := "fnExactPolyOk", apart := false }
def FnExactPolyOkSaid : Prop := fnExactPolyOkRow.holds Try.pinned (OpenSpec.ofChange fnExactPolyOkSpec)

/-- ITS FALSE NEIGHBOUR: 'it returns false'. Refute it at one input. -/
def fnExactPolyOkWrong : ChangeSpec := { name := "fnExactPolyOk", fn := fun _ => fun
  | [d] => { results := [.lit (.bool false)], args := [d] }
  | _ => none }
def FnExactPolyOkWrongFalsely : Prop := fnExactPolyOkRow.holds Try.pinned (OpenSpec.ofChange fnExactPolyOkWrong)

/- THE SECOND FORM. 'bulk': how many values and letters a reading holds, each counted each time it is reached (what is shared counts as often as it is met; a slice's spare places count too). A statement '..UptoSaid' is the law's where the arguments, and the package variables that the reading takes, are together of bulk at most 1048576: NARROWER than '..Said'. Prove '..Said' where nothing that the law and all that it calls make is longer than what came in: it says more and counts as full. Else prove '..UptoSaid'. A law counts once. -/
mutual
def uptoBulk {H : Type} : DataW H → Nat
  | .lit (.string bytes) => bytes.length + 1
  | .lit _ => 1
  | .nil => 1
  | .ptr d => uptoBulk d + 1
  | .slice elems spare => uptoBulkAll elems + uptoBulkAll spare + 1
  | .agg parts => uptoBulkAll parts + 1
  | .iface _ d => uptoBulk d + 1
  | .map entries => uptoBulkEntries entries + 1
  | .held _ => 1
def uptoBulkAll {H : Type} : List (DataW H) → Nat
  | [] => 0
  | d :: r => uptoBulk d + uptoBulkAll r
def uptoBulkEntries {H : Type} : List (Lit × DataW H) → Nat
  | [] => 0
  | x :: r => uptoBulkEntry x + uptoBulkEntries r
def uptoBulkEntry {H : Type} : Lit × DataW H → Nat
  | (.string bytes, d) => bytes.length + uptoBulk d + 1
  | (_, d) => uptoBulk d + 1
 end
def uptoSmall : (H : Type) → List (DataW H) → Bool := fun _ ds => decide (uptoBulkAll ds ≤ 1048576)
def OpenSpec.upto (s : _root_.Go.ChangeSpec) : _root_.Go.OpenSpec := { _root_.Go.OpenSpec.ofChange s with cond := some uptoSmall }

/-- 'laws.FnExactConstants', WHERE WHAT IT READS IS OF BULK AT MOST 1048576: true; the input reads as it did. -/
def fnExactConstantsUptoRow : OpenClaim := { program := "ytmlbbikmgnipmaa", sum := "10d8568d2b79dc61eced09f834abcc4654608adba060aa9754a92d5480b5ffd2", func := "loop.example/g00186/laws.FnExactConstants", spec := "fnExactConstants", apart := false, narrowed := true }
def FnExactConstantsUptoSaid : Prop := fnExactConstantsUptoRow.holds Try.pinned (OpenSpec.upto fnExactConstantsSpec)

/-- 'laws.FnExactSameMac', WHERE WHAT IT READS IS OF BULK AT MOST 1048576: true; the input reads as it did. -/
def fnExactSameMacUptoRow : OpenClaim := { program := "ytmlbbikmgnipmaa", sum := "10d8568d2b79dc61eced09f834abcc4654608adba060aa9754a92d5480b5ffd2", func := "loop.example/g00186/laws.FnExactSameMac", spec := "fnExactSameMac", apart := false, narrowed := true }
def FnExactSameMacUptoSaid : Prop := fnExactSameMacUptoRow.holds Try.pinned (OpenSpec.upto fnExactSameMacSpec)

/-- 'laws.FnExactTurn7', WHERE WHAT IT READS IS OF BULK AT MOST 1048576: true; the input reads as it did. -/
def fnExactTurn7UptoRow : OpenClaim := { program := "ytmlbbikmgnipmaa", sum := "10d8568d2b79dc61eced09f834abcc4654608adba060aa9754a92d5480b5ffd2", func := "loop.example/g00186/laws.FnExactTurn7", spec := "fnExactTurn7", apart := false, narrowed := true }
def FnExactTurn7UptoSaid : Prop := fnExactTurn7UptoRow.holds Try.pinned (OpenSpec.upto fnExactTurn7Spec)

/-- 'laws.FnExactPoolOk', WHERE WHAT IT READS IS OF BULK AT MOST 1048576: true; the input reads as it did. -/
def fnExactPoolOkUptoRow : OpenClaim := { program := "ytmlbbikmgnipmaa", sum := "10d8568d2b79dc61eced09f834abcc4654608adba060aa9754a92d5480b5ffd2", func := "loop.example/g00186/laws.FnExactPoolOk", spec := "fnExactPoolOk", apart := false, narrowed := true }
def FnExactPoolOkUptoSaid : Prop := fnExactPoolOkUptoRow.holds Try.pinned (OpenSpec.upto fnExactPoolOkSpec)

/-- 'laws.FnExactHasherOk', WHERE WHAT IT READS IS OF BULK AT MOST 1048576: true; the input reads as it did. -/
def fnExactHasherOkUptoRow : OpenClaim := { program := "ytmlbbikmgnipmaa", sum := "10d8568d2b79dc61eced09f834abcc4654608adba060aa9754a92d5480b5ffd2", func := "loop.example/g00186/laws.FnExactHasherOk", spec := "fnExactHasherOk", apart := false, narrowed := true }
def FnExactHasherOkUptoSaid : Prop := fnExactHasherOkUptoRow.holds Try.pinned (OpenSpec.upto fnExactHasherOkSpec)

/-- 'laws.FnExactPolyOk', WHERE WHAT IT READS IS OF BULK AT MOST 1048576: true; the input reads as it did. -/
def fnExactPolyOkUptoRow : OpenClaim := { program := "ytmlbbikmgnipmaa", sum := "10d8568d2b79dc61eced09f834abcc4654608adba060aa9754a92d5480b5ffd2", func := "loop.example/g00186/laws.FnExactPolyOk", spec := "fnExactPolyOk", apart := false, narrowed := true }
def FnExactPolyOkUptoSaid : Prop := fnExactPolyOkUptoRow.holds Try.pinned (OpenSpec.upto fnExactPolyOkSpec)

end Rows
end Go.Proofs.Ytmlbbikmgnipmaa
