/-
  No cell of these rows narrows 'for every input' (looked for: loops, veiled, ifaces, maps, wideKeys, modest, calm, conditions, laid).
  DERIVED. THE GIVEN ROWS OF THIS SEAT. 6 by the template 'for every input the law returns true; each argument reads behind the call as it read before'; 0 by the template 'total and deterministic' (their statements: YtnbggmmpmppnaaaTotals.lean).
  GIVEN WITH THE SEED: the statements are not yours to turn. If you find one false, say at which input.
  Laid BY PROGRAM, IN A SANDBOX (cutbox-rows.mjs): the forced cells as the released guide's own fill.sh prints them over the translation 012b2388dc62cb94… (all of the seat's roots in one cut). By AI agents, Wed Nov 11 2026. No macro, syntax, notation, axiom, sorry.
-/
import Derived.Test.YtnbggmmpmppnaaaChecked
import GoSem.Claim
import GoSem.ClaimJoined
import GoSem.ClaimMapViews
import Derived.JoinedTies
import Derived.KernelRfl
namespace Go.Proofs.Ytnbggmmpmppnaaa
/- THE CELL 'sum', in the pinned program and in every row, IS THE sha256 OF THE DUMP (.gsa) THAT YtnbggmmpmppnaaaProg.lean LOADS. Nothing in Lean hashes anything: it is a label: what it is worth is what the hold of that sum in a sandbox is worth. -/
noncomputable def Try.pinned : Pinned := { name := "ytnbggmmpmppnaaa", sum := "012b2388dc62cb94ba0c5a802b252b926738f46d4ca24a08925a64ed1d3b6917", checked := Try.checked }
namespace Rows
def none {H : Type} : Left H := { results := [], args := [] }

/-- 'laws.FnExactPolyAdd': WHATEVER THE INPUT: true; the input reads as it did. -/
def fnExactPolyAddSpec : ChangeSpec := { name := "fnExactPolyAdd", fn := fun _ => fun
  | [d1, d2] => { results := [.lit (.bool true)], args := [d1, d2] }
  | _ => none }
def fnExactPolyAddRow : OpenClaim := { program := "ytnbggmmpmppnaaa", sum := "012b2388dc62cb94ba0c5a802b252b926738f46d4ca24a08925a64ed1d3b6917", func := "loop.example/g00186/laws.FnExactPolyAdd", spec := "fnExactPolyAdd", unfollowed := true, recurses := true, apart := false }
def FnExactPolyAddSaid : Prop := fnExactPolyAddRow.holds Try.pinned (OpenSpec.ofChange fnExactPolyAddSpec)

/-- ITS FALSE NEIGHBOUR: 'it returns false'. Refute it at one input. -/
def fnExactPolyAddWrong : ChangeSpec := { name := "fnExactPolyAdd", fn := fun _ => fun
  | [d1, d2] => { results := [.lit (.bool false)], args := [d1, d2] }
  | _ => none }
def FnExactPolyAddWrongFalsely : Prop := fnExactPolyAddRow.holds Try.pinned (OpenSpec.ofChange fnExactPolyAddWrong)

/-- 'laws.FnExactPolySub': WHATEVER THE INPUT: true; the input reads as it did. -/
def fnExactPolySubSpec : ChangeSpec := { name := "fnExactPolySub", fn := fun _ => fun
  | [d1, d2] => { results := [.lit (.bool true)], args := [d1, d2] }
  | _ => none }
def fnExactPolySubRow : OpenClaim := { program := "ytnbggmmpmppnaaa", sum := "012b2388dc62cb94ba0c5a802b252b926738f46d4ca24a08925a64ed1d3b6917", func := "loop.example/g00186/laws.FnExactPolySub", spec := "fnExactPolySub", unfollowed := true, recurses := true, apart := false }
def FnExactPolySubSaid : Prop := fnExactPolySubRow.holds Try.pinned (OpenSpec.ofChange fnExactPolySubSpec)

/-- ITS FALSE NEIGHBOUR: 'it returns false'. Refute it at one input. -/
def fnExactPolySubWrong : ChangeSpec := { name := "fnExactPolySub", fn := fun _ => fun
  | [d1, d2] => { results := [.lit (.bool false)], args := [d1, d2] }
  | _ => none }
def FnExactPolySubWrongFalsely : Prop := fnExactPolySubRow.holds Try.pinned (OpenSpec.ofChange fnExactPolySubWrong)

/-- 'laws.FnExactPolyMul': WHATEVER THE INPUT: true; the input reads as it did. -/
def fnExactPolyMulSpec : ChangeSpec := { name := "fnExactPolyMul", fn := fun _ => fun
  | [d1, d2] => { results := [.lit (.bool true)], args := [d1, d2] }
  | _ => none }
def fnExactPolyMulRow : OpenClaim := { program := "ytnbggmmpmppnaaa", sum := "012b2388dc62cb94ba0c5a802b252b926738f46d4ca24a08925a64ed1d3b6917", func := "loop.example/g00186/laws.FnExactPolyMul", spec := "fnExactPolyMul", apart := false }
def FnExactPolyMulSaid : Prop := fnExactPolyMulRow.holds Try.pinned (OpenSpec.ofChange fnExactPolyMulSpec)

/-- ITS FALSE NEIGHBOUR: 'it returns false'. Refute it at one input. -/
def fnExactPolyMulWrong : ChangeSpec := { name := "fnExactPolyMul", fn := fun _ => fun
  | [d1, d2] => { results := [.lit (.bool false)], args := [d1, d2] }
  | _ => none }
def FnExactPolyMulWrongFalsely : Prop := fnExactPolyMulRow.holds Try.pinned (OpenSpec.ofChange fnExactPolyMulWrong)

/-- 'laws.FnExactFar': WHATEVER THE INPUT: true; the input reads as it did. -/
def fnExactFarSpec : ChangeSpec := { name := "fnExactFar", fn := fun _ => fun
  | [d1, d2] => { results := [.lit (.bool true)], args := [d1, d2] }
  | _ => none }
def fnExactFarRow : OpenClaim := { program := "ytnbggmmpmppnaaa", sum := "012b2388dc62cb94ba0c5a802b252b926738f46d4ca24a08925a64ed1d3b6917", func := "loop.example/g00186/laws.FnExactFar", spec := "fnExactFar", unfollowed := true, recurses := true, apart := false }
def FnExactFarSaid : Prop := fnExactFarRow.holds Try.pinned (OpenSpec.ofChange fnExactFarSpec)

/-- ITS FALSE NEIGHBOUR: 'it returns false'. Refute it at one input. -/
def fnExactFarWrong : ChangeSpec := { name := "fnExactFar", fn := fun _ => fun
  | [d1, d2] => { results := [.lit (.bool false)], args := [d1, d2] }
  | _ => none }
def FnExactFarWrongFalsely : Prop := fnExactFarRow.holds Try.pinned (OpenSpec.ofChange fnExactFarWrong)

/-- 'laws.FnShift': WHATEVER THE INPUT: true; the input reads as it did. -/
def fnShiftSpec : ChangeSpec := { name := "fnShift", fn := fun _ => fun
  | [d] => { results := [.lit (.bool true)], args := [d] }
  | _ => none }
def fnShiftRow : OpenClaim := { program := "ytnbggmmpmppnaaa", sum := "012b2388dc62cb94ba0c5a802b252b926738f46d4ca24a08925a64ed1d3b6917", func := "loop.example/g00186/laws.FnShift", spec := "fnShift", unfollowed := true, recurses := true, apart := false }
def FnShiftSaid : Prop := fnShiftRow.holds Try.pinned (OpenSpec.ofChange fnShiftSpec)

/-- ITS FALSE NEIGHBOUR: 'it returns false'. Refute it at one input. -/
def fnShiftWrong : ChangeSpec := { name := "fnShift", fn := fun _ => fun
  | [d] => { results := [.lit (.bool false)], args := [d] }
  | _ => none }
def FnShiftWrongFalsely : Prop := fnShiftRow.holds Try.pinned (OpenSpec.ofChange fnShiftWrong)

/-- 'laws.FnPowers': WHATEVER THE INPUT: true; the input reads as it did. -/
def fnPowersSpec : ChangeSpec := { name := "fnPowers", fn := fun _ => fun
  | [d] => { results := [.lit (.bool true)], args := [d] }
  | _ => none }
def fnPowersRow : OpenClaim := { program := "ytnbggmmpmppnaaa", sum := "012b2388dc62cb94ba0c5a802b252b926738f46d4ca24a08925a64ed1d3b6917", func := "loop.example/g00186/laws.FnPowers", spec := "fnPowers", apart := false }
def FnPowersSaid : Prop := fnPowersRow.holds Try.pinned (OpenSpec.ofChange fnPowersSpec)

/-- ITS FALSE NEIGHBOUR: 'it returns false'. Refute it at one input. -/
def fnPowersWrong : ChangeSpec := { name := "fnPowers", fn := fun _ => fun
  | [d] => { results := [.lit (.bool false)], args := [d] }
  | _ => none }
def FnPowersWrongFalsely : Prop := fnPowersRow.holds Try.pinned (OpenSpec.ofChange fnPowersWrong)

/- THE SECOND FORM. 'bulk': how many values and letters a reading holds, each counted each time it is reached (what is shared counts as often as it is met; a slice's spare places count too). A statement '..UptoSaid' is the law's where the arguments, and the package variables that the reading takes, are together of bulk at most 1048576: NARROWER than '..Said'. Prove '..Said' where nothing that the law and all that it calls make is longer than what came in: it says more and counts as full. Else prove '..UptoSaid'. A law counts once. -/
mutual
def uptoBulk {H : Type} : DataW H → Nat
  | .lit (.string bytes) => bytes.length + 1
  | .lit _ => 1
  | .nil => 1
  | .ptr d => uptoBulk d + 1
  | .slice elems spare => uptoBulkAll elems + uptoBulkAll spare + 1
  | .agg parts => uptoBulkAll parts + 1
  | .iface _ d => uptoBulk d + 1
  | .map entries => uptoBulkEntries entries + 1
  | .held _ => 1
def uptoBulkAll {H : Type} : List (DataW H) → Nat
  | [] => 0
  | d :: r => uptoBulk d + uptoBulkAll r
def uptoBulkEntries {H : Type} : List (Lit × DataW H) → Nat
  | [] => 0
  | x :: r => uptoBulkEntry x + uptoBulkEntries r
def uptoBulkEntry {H : Type} : Lit × DataW H → Nat
  | (.string bytes, d) => bytes.length + uptoBulk d + 1
  | (_, d) => uptoBulk d + 1
 end
def uptoSmall : (H : Type) → List (DataW H) → Bool := fun _ ds => decide (uptoBulkAll ds ≤ 1048576)
def OpenSpec.upto (s : _root_.Go.ChangeSpec) : _root_.Go.OpenSpec := { _root_.Go.OpenSpec.ofChange s with cond := some uptoSmall }

/-- 'laws.FnExactPolyAdd', WHERE WHAT IT READS IS OF BULK AT MOST 1048576: true; the input reads as it did. -/
def fnExactPolyAddUptoRow : OpenClaim := { program := "ytnbggmmpmppnaaa", sum := "012b2388dc62cb94ba0c5a802b252b926738f46d4ca24a08925a64ed1d3b6917", func := "loop.example/g00186/laws.FnExactPolyAdd", spec := "fnExactPolyAdd", unfollowed := true, recurses := true, apart := false, narrowed := true }
def FnExactPolyAddUptoSaid : Prop := fnExactPolyAddUptoRow.holds Try.pinned (OpenSpec.upto fnExactPolyAddSpec)

/-- 'laws.FnExactPolySub', WHERE WHAT IT READS IS OF BULK AT MOST 1048576: true; the input reads as it did. -/
def fnExactPolySubUptoRow : OpenClaim := { program := "ytnbggmmpmppnaaa", sum := "012b2388dc62cb94ba0c5a802b252b926738f46d4ca24a08925a64ed1d3b6917", func := "loop.example/g00186/laws.FnExactPolySub", spec := "fnExactPolySub", unfollowed := true, recurses := true, apart := false, narrowed := true }
def FnExactPolySubUptoSaid : Prop := fnExactPolySubUptoRow.holds Try.pinned (OpenSpec.upto fnExactPolySubSpec)

/-- 'laws.FnExactPolyMul', WHERE WHAT IT READS IS OF BULK AT MOST 1048576: true; the input reads as it did. -/
def fnExactPolyMulUptoRow : OpenClaim := { program := "ytnbggmmpmppnaaa", sum := "012b2388dc62cb94ba0c5a802b252b926738f46d4ca24a08925a64ed1d3b6917", func := "loop.example/g00186/laws.FnExactPolyMul", spec := "fnExactPolyMul", apart := false, narrowed := true }
def FnExactPolyMulUptoSaid : Prop := fnExactPolyMulUptoRow.holds Try.pinned (OpenSpec.upto fnExactPolyMulSpec)

/-- 'laws.FnExactFar', WHERE WHAT IT READS IS OF BULK AT MOST 1048576: true; the input reads as it did. -/
def fnExactFarUptoRow : OpenClaim := { program := "ytnbggmmpmppnaaa", sum := "012b2388dc62cb94ba0c5a802b252b926738f46d4ca24a08925a64ed1d3b6917", func := "loop.example/g00186/laws.FnExactFar", spec := "fnExactFar", unfollowed := true, recurses := true, apart := false, narrowed := true }
def FnExactFarUptoSaid : Prop := fnExactFarUptoRow.holds Try.pinned (OpenSpec.upto fnExactFarSpec)

/-- 'laws.FnShift', WHERE WHAT IT READS IS OF BULK AT MOST 1048576: true; the input reads as it did. -/
def fnShiftUptoRow : OpenClaim := { program := "ytnbggmmpmppnaaa", sum := "012b2388dc62cb94ba0c5a802b252b926738f46d4ca24a08925a64ed1d3b6917", func := "loop.example/g00186/laws.FnShift", spec := "fnShift", unfollowed := true, recurses := true, apart := false, narrowed := true }
def FnShiftUptoSaid : Prop := fnShiftUptoRow.holds Try.pinned (OpenSpec.upto fnShiftSpec)

/-- 'laws.FnPowers', WHERE WHAT IT READS IS OF BULK AT MOST 1048576: true; the input reads as it did. -/
def fnPowersUptoRow : OpenClaim := { program := "ytnbggmmpmppnaaa", sum := "012b2388dc62cb94ba0c5a802b252b926738f46d4ca24a08925a64ed1d3b6917", func := "loop.example/g00186/laws.FnPowers", spec := "fnPowers", apart := false, narrowed := true }
def FnPowersUptoSaid : Prop := fnPowersUptoRow.holds Try.pinned (OpenSpec.upto fnPowersSpec)

end Rows
end Go.Proofs.Ytnbggmmpmppnaaa
