/-
  NARROWER THAN 'FOR EVERY INPUT', by the rows' own cells (each row's printed sentence says how): FnExactDigestOf: laid · FnExactHashMore: laid · FnExactHashEnd: laid · FnExactMacOf: laid · FnExactExpand: laid · FnExactPoolNew: laid · FnExactPoolTake: laid · FnExactPoolFeed: laid · FnDigests: laid · FnHashers: laid · FnMacs: laid · FnPools: laid.
  DERIVED. THE GIVEN ROWS OF THIS SEAT. 12 by the template 'for every input the law returns true; each argument reads behind the call as it read before'; 0 by the template 'total and deterministic' (their statements: YtlddohppkcndjaaDoorTotals.lean).
  GIVEN WITH THE SEED: the statements are not yours to turn. If you find one false, say at which input.
  Laid BY PROGRAM, IN A SANDBOX (cutbox-rows.mjs): the forced cells as the released guide's own fill.sh prints them over the translation cbcdba5e787c98fa… (all of the seat's roots in one cut). By AI agents, Wed Nov 11 2026. No macro, syntax, notation, axiom, sorry.
-/
import Derived.Test.YtlddohppkcndjaaDoorChecked
import GoSem.Claim
import GoSem.ClaimJoined
import GoSem.ClaimMapViews
import Derived.JoinedTies
import Derived.KernelRfl
namespace Go.Proofs.YtlddohppkcndjaaDoor
/- THE CELL 'sum', in the pinned program and in every row, IS THE sha256 OF THE DUMP (.gsa) THAT YtlddohppkcndjaaDoorProg.lean LOADS. Nothing in Lean hashes anything: it is a label: what it is worth is what the hold of that sum in a sandbox is worth. -/
noncomputable def Tryd.pinned : Pinned := { name := "ytlddohppkcndjaadoor", sum := "cbcdba5e787c98fac0c6e46f75640fc9c37a1663f30020dc325cfb14bfb61167", checked := Tryd.checked }
namespace Rows
def none {H : Type} : Left H := { results := [], args := [] }

/- WHAT THE LISTED PACKAGE-LEVEL VARIABLES READ AS WHEN THE CALL BEGINS. Each datum BY PROGRAM (the guide's laid-datum.mjs) off the statement by which the dump's own 'gosem.cut.vars' lays the variable. In a bare row this is a premise. The card (YtlddohppkcndjaaDoorCards.lean) ties it to the program's text. -/
def laid_loop_example_g00186_impl_roundKeys {H : Type} : DataW H := .agg [.lit (.int .u32 1116352408), .lit (.int .u32 1899447441), .lit (.int .u32 3049323471), .lit (.int .u32 3921009573), .lit (.int .u32 961987163), .lit (.int .u32 1508970993), .lit (.int .u32 2453635748), .lit (.int .u32 2870763221), .lit (.int .u32 3624381080), .lit (.int .u32 310598401), .lit (.int .u32 607225278), .lit (.int .u32 1426881987), .lit (.int .u32 1925078388), .lit (.int .u32 2162078206), .lit (.int .u32 2614888103), .lit (.int .u32 3248222580), .lit (.int .u32 3835390401), .lit (.int .u32 4022224774), .lit (.int .u32 264347078), .lit (.int .u32 604807628), .lit (.int .u32 770255983), .lit (.int .u32 1249150122), .lit (.int .u32 1555081692), .lit (.int .u32 1996064986), .lit (.int .u32 2554220882), .lit (.int .u32 2821834349), .lit (.int .u32 2952996808), .lit (.int .u32 3210313671), .lit (.int .u32 3336571891), .lit (.int .u32 3584528711), .lit (.int .u32 113926993), .lit (.int .u32 338241895), .lit (.int .u32 666307205), .lit (.int .u32 773529912), .lit (.int .u32 1294757372), .lit (.int .u32 1396182291), .lit (.int .u32 1695183700), .lit (.int .u32 1986661051), .lit (.int .u32 2177026350), .lit (.int .u32 2456956037), .lit (.int .u32 2730485921), .lit (.int .u32 2820302411), .lit (.int .u32 3259730800), .lit (.int .u32 3345764771), .lit (.int .u32 3516065817), .lit (.int .u32 3600352804), .lit (.int .u32 4094571909), .lit (.int .u32 275423344), .lit (.int .u32 430227734), .lit (.int .u32 506948616), .lit (.int .u32 659060556), .lit (.int .u32 883997877), .lit (.int .u32 958139571), .lit (.int .u32 1322822218), .lit (.int .u32 1537002063), .lit (.int .u32 1747873779), .lit (.int .u32 1955562222), .lit (.int .u32 2024104815), .lit (.int .u32 2227730452), .lit (.int .u32 2361852424), .lit (.int .u32 2428436474), .lit (.int .u32 2756734187), .lit (.int .u32 3204031479), .lit (.int .u32 3329325298)]

/-- 'laws.FnExactDigestOf': WHATEVER THE INPUT: true; the input reads as it did. -/
def fnExactDigestOfSpec : ChangeSpec := { name := "fnExactDigestOf", vars := ["loop.example/g00186/impl.roundKeys"], fn := fun _ => fun
  | [d, g1] => { results := [.lit (.bool true)], args := [d], vars := [g1] }
  | _ => none }
def fnExactDigestOfRow : OpenClaim := { program := "ytlddohppkcndjaadoor", sum := "cbcdba5e787c98fac0c6e46f75640fc9c37a1663f30020dc325cfb14bfb61167", func := "loop.example/g00186/laws.FnExactDigestOf", spec := "fnExactDigestOf", named := ["loop.example/g00186/impl.roundKeys"], apart := false, laid := [("loop.example/g00186/impl.roundKeys", laid_loop_example_g00186_impl_roundKeys)] }
def FnExactDigestOfSaid : Prop := fnExactDigestOfRow.holds Tryd.pinned (OpenSpec.ofChange fnExactDigestOfSpec)

/-- ITS FALSE NEIGHBOUR: 'it returns false'. Refute it at one input. -/
def fnExactDigestOfWrong : ChangeSpec := { name := "fnExactDigestOf", vars := ["loop.example/g00186/impl.roundKeys"], fn := fun _ => fun
  | [d, g1] => { results := [.lit (.bool false)], args := [d], vars := [g1] }
  | _ => none }
def FnExactDigestOfWrongFalsely : Prop := fnExactDigestOfRow.holds Tryd.pinned (OpenSpec.ofChange fnExactDigestOfWrong)

/-- 'laws.FnExactHashMore': WHATEVER THE INPUT: true; the input reads as it did. -/
def fnExactHashMoreSpec : ChangeSpec := { name := "fnExactHashMore", vars := ["loop.example/g00186/impl.roundKeys"], fn := fun _ => fun
  | [d1, d2, g1] => { results := [.lit (.bool true)], args := [d1, d2], vars := [g1] }
  | _ => none }
def fnExactHashMoreRow : OpenClaim := { program := "ytlddohppkcndjaadoor", sum := "cbcdba5e787c98fac0c6e46f75640fc9c37a1663f30020dc325cfb14bfb61167", func := "loop.example/g00186/laws.FnExactHashMore", spec := "fnExactHashMore", named := ["loop.example/g00186/impl.roundKeys"], apart := false, laid := [("loop.example/g00186/impl.roundKeys", laid_loop_example_g00186_impl_roundKeys)] }
def FnExactHashMoreSaid : Prop := fnExactHashMoreRow.holds Tryd.pinned (OpenSpec.ofChange fnExactHashMoreSpec)

/-- ITS FALSE NEIGHBOUR: 'it returns false'. Refute it at one input. -/
def fnExactHashMoreWrong : ChangeSpec := { name := "fnExactHashMore", vars := ["loop.example/g00186/impl.roundKeys"], fn := fun _ => fun
  | [d1, d2, g1] => { results := [.lit (.bool false)], args := [d1, d2], vars := [g1] }
  | _ => none }
def FnExactHashMoreWrongFalsely : Prop := fnExactHashMoreRow.holds Tryd.pinned (OpenSpec.ofChange fnExactHashMoreWrong)

/-- 'laws.FnExactHashEnd': WHATEVER THE INPUT: true; the input reads as it did. -/
def fnExactHashEndSpec : ChangeSpec := { name := "fnExactHashEnd", vars := ["loop.example/g00186/impl.roundKeys"], fn := fun _ => fun
  | [d, g1] => { results := [.lit (.bool true)], args := [d], vars := [g1] }
  | _ => none }
def fnExactHashEndRow : OpenClaim := { program := "ytlddohppkcndjaadoor", sum := "cbcdba5e787c98fac0c6e46f75640fc9c37a1663f30020dc325cfb14bfb61167", func := "loop.example/g00186/laws.FnExactHashEnd", spec := "fnExactHashEnd", named := ["loop.example/g00186/impl.roundKeys"], apart := false, laid := [("loop.example/g00186/impl.roundKeys", laid_loop_example_g00186_impl_roundKeys)] }
def FnExactHashEndSaid : Prop := fnExactHashEndRow.holds Tryd.pinned (OpenSpec.ofChange fnExactHashEndSpec)

/-- ITS FALSE NEIGHBOUR: 'it returns false'. Refute it at one input. -/
def fnExactHashEndWrong : ChangeSpec := { name := "fnExactHashEnd", vars := ["loop.example/g00186/impl.roundKeys"], fn := fun _ => fun
  | [d, g1] => { results := [.lit (.bool false)], args := [d], vars := [g1] }
  | _ => none }
def FnExactHashEndWrongFalsely : Prop := fnExactHashEndRow.holds Tryd.pinned (OpenSpec.ofChange fnExactHashEndWrong)

/-- 'laws.FnExactMacOf': WHATEVER THE INPUT: true; the input reads as it did. -/
def fnExactMacOfSpec : ChangeSpec := { name := "fnExactMacOf", vars := ["loop.example/g00186/impl.roundKeys"], fn := fun _ => fun
  | [d1, d2, g1] => { results := [.lit (.bool true)], args := [d1, d2], vars := [g1] }
  | _ => none }
def fnExactMacOfRow : OpenClaim := { program := "ytlddohppkcndjaadoor", sum := "cbcdba5e787c98fac0c6e46f75640fc9c37a1663f30020dc325cfb14bfb61167", func := "loop.example/g00186/laws.FnExactMacOf", spec := "fnExactMacOf", named := ["loop.example/g00186/impl.roundKeys"], apart := false, laid := [("loop.example/g00186/impl.roundKeys", laid_loop_example_g00186_impl_roundKeys)] }
def FnExactMacOfSaid : Prop := fnExactMacOfRow.holds Tryd.pinned (OpenSpec.ofChange fnExactMacOfSpec)

/-- ITS FALSE NEIGHBOUR: 'it returns false'. Refute it at one input. -/
def fnExactMacOfWrong : ChangeSpec := { name := "fnExactMacOf", vars := ["loop.example/g00186/impl.roundKeys"], fn := fun _ => fun
  | [d1, d2, g1] => { results := [.lit (.bool false)], args := [d1, d2], vars := [g1] }
  | _ => none }
def FnExactMacOfWrongFalsely : Prop := fnExactMacOfRow.holds Tryd.pinned (OpenSpec.ofChange fnExactMacOfWrong)

/-- 'laws.FnExactExpand': WHATEVER THE INPUT: true; the input reads as it did. -/
def fnExactExpandSpec : ChangeSpec := { name := "fnExactExpand", vars := ["loop.example/g00186/impl.roundKeys"], fn := fun _ => fun
  | [d1, d2, d3, g1] => { results := [.lit (.bool true)], args := [d1, d2, d3], vars := [g1] }
  | _ => none }
def fnExactExpandRow : OpenClaim := { program := "ytlddohppkcndjaadoor", sum := "cbcdba5e787c98fac0c6e46f75640fc9c37a1663f30020dc325cfb14bfb61167", func := "loop.example/g00186/laws.FnExactExpand", spec := "fnExactExpand", named := ["loop.example/g00186/impl.roundKeys"], apart := false, laid := [("loop.example/g00186/impl.roundKeys", laid_loop_example_g00186_impl_roundKeys)] }
def FnExactExpandSaid : Prop := fnExactExpandRow.holds Tryd.pinned (OpenSpec.ofChange fnExactExpandSpec)

/-- ITS FALSE NEIGHBOUR: 'it returns false'. Refute it at one input. -/
def fnExactExpandWrong : ChangeSpec := { name := "fnExactExpand", vars := ["loop.example/g00186/impl.roundKeys"], fn := fun _ => fun
  | [d1, d2, d3, g1] => { results := [.lit (.bool false)], args := [d1, d2, d3], vars := [g1] }
  | _ => none }
def FnExactExpandWrongFalsely : Prop := fnExactExpandRow.holds Tryd.pinned (OpenSpec.ofChange fnExactExpandWrong)

/-- 'laws.FnExactPoolNew': WHATEVER THE INPUT: true; the input reads as it did. -/
def fnExactPoolNewSpec : ChangeSpec := { name := "fnExactPoolNew", vars := ["loop.example/g00186/impl.roundKeys"], fn := fun _ => fun
  | [d, g1] => { results := [.lit (.bool true)], args := [d], vars := [g1] }
  | _ => none }
def fnExactPoolNewRow : OpenClaim := { program := "ytlddohppkcndjaadoor", sum := "cbcdba5e787c98fac0c6e46f75640fc9c37a1663f30020dc325cfb14bfb61167", func := "loop.example/g00186/laws.FnExactPoolNew", spec := "fnExactPoolNew", named := ["loop.example/g00186/impl.roundKeys"], apart := false, laid := [("loop.example/g00186/impl.roundKeys", laid_loop_example_g00186_impl_roundKeys)] }
def FnExactPoolNewSaid : Prop := fnExactPoolNewRow.holds Tryd.pinned (OpenSpec.ofChange fnExactPoolNewSpec)

/-- ITS FALSE NEIGHBOUR: 'it returns false'. Refute it at one input. -/
def fnExactPoolNewWrong : ChangeSpec := { name := "fnExactPoolNew", vars := ["loop.example/g00186/impl.roundKeys"], fn := fun _ => fun
  | [d, g1] => { results := [.lit (.bool false)], args := [d], vars := [g1] }
  | _ => none }
def FnExactPoolNewWrongFalsely : Prop := fnExactPoolNewRow.holds Tryd.pinned (OpenSpec.ofChange fnExactPoolNewWrong)

/-- 'laws.FnExactPoolTake': WHATEVER THE INPUT: true; the input reads as it did. -/
def fnExactPoolTakeSpec : ChangeSpec := { name := "fnExactPoolTake", vars := ["loop.example/g00186/impl.roundKeys"], fn := fun _ => fun
  | [d1, d2, g1] => { results := [.lit (.bool true)], args := [d1, d2], vars := [g1] }
  | _ => none }
def fnExactPoolTakeRow : OpenClaim := { program := "ytlddohppkcndjaadoor", sum := "cbcdba5e787c98fac0c6e46f75640fc9c37a1663f30020dc325cfb14bfb61167", func := "loop.example/g00186/laws.FnExactPoolTake", spec := "fnExactPoolTake", named := ["loop.example/g00186/impl.roundKeys"], apart := false, laid := [("loop.example/g00186/impl.roundKeys", laid_loop_example_g00186_impl_roundKeys)] }
def FnExactPoolTakeSaid : Prop := fnExactPoolTakeRow.holds Tryd.pinned (OpenSpec.ofChange fnExactPoolTakeSpec)

/-- ITS FALSE NEIGHBOUR: 'it returns false'. Refute it at one input. -/
def fnExactPoolTakeWrong : ChangeSpec := { name := "fnExactPoolTake", vars := ["loop.example/g00186/impl.roundKeys"], fn := fun _ => fun
  | [d1, d2, g1] => { results := [.lit (.bool false)], args := [d1, d2], vars := [g1] }
  | _ => none }
def FnExactPoolTakeWrongFalsely : Prop := fnExactPoolTakeRow.holds Tryd.pinned (OpenSpec.ofChange fnExactPoolTakeWrong)

/-- 'laws.FnExactPoolFeed': WHATEVER THE INPUT: true; the input reads as it did. -/
def fnExactPoolFeedSpec : ChangeSpec := { name := "fnExactPoolFeed", vars := ["loop.example/g00186/impl.roundKeys"], fn := fun _ => fun
  | [d1, d2, g1] => { results := [.lit (.bool true)], args := [d1, d2], vars := [g1] }
  | _ => none }
def fnExactPoolFeedRow : OpenClaim := { program := "ytlddohppkcndjaadoor", sum := "cbcdba5e787c98fac0c6e46f75640fc9c37a1663f30020dc325cfb14bfb61167", func := "loop.example/g00186/laws.FnExactPoolFeed", spec := "fnExactPoolFeed", named := ["loop.example/g00186/impl.roundKeys"], apart := false, laid := [("loop.example/g00186/impl.roundKeys", laid_loop_example_g00186_impl_roundKeys)] }
def FnExactPoolFeedSaid : Prop := fnExactPoolFeedRow.holds Tryd.pinned (OpenSpec.ofChange fnExactPoolFeedSpec)

/-- ITS FALSE NEIGHBOUR: 'it returns false'. Refute it at one input. -/
def fnExactPoolFeedWrong : ChangeSpec := { name := "fnExactPoolFeed", vars := ["loop.example/g00186/impl.roundKeys"], fn := fun _ => fun
  | [d1, d2, g1] => { results := [.lit (.bool false)], args := [d1, d2], vars := [g1] }
  | _ => none }
def FnExactPoolFeedWrongFalsely : Prop := fnExactPoolFeedRow.holds Tryd.pinned (OpenSpec.ofChange fnExactPoolFeedWrong)

/-- 'laws.FnDigests': WHATEVER THE INPUT: true; the input reads as it did. -/
def fnDigestsSpec : ChangeSpec := { name := "fnDigests", vars := ["loop.example/g00186/impl.roundKeys"], fn := fun _ => fun
  | [d, g1] => { results := [.lit (.bool true)], args := [d], vars := [g1] }
  | _ => none }
def fnDigestsRow : OpenClaim := { program := "ytlddohppkcndjaadoor", sum := "cbcdba5e787c98fac0c6e46f75640fc9c37a1663f30020dc325cfb14bfb61167", func := "loop.example/g00186/laws.FnDigests", spec := "fnDigests", named := ["loop.example/g00186/impl.roundKeys"], apart := false, laid := [("loop.example/g00186/impl.roundKeys", laid_loop_example_g00186_impl_roundKeys)] }
def FnDigestsSaid : Prop := fnDigestsRow.holds Tryd.pinned (OpenSpec.ofChange fnDigestsSpec)

/-- ITS FALSE NEIGHBOUR: 'it returns false'. Refute it at one input. -/
def fnDigestsWrong : ChangeSpec := { name := "fnDigests", vars := ["loop.example/g00186/impl.roundKeys"], fn := fun _ => fun
  | [d, g1] => { results := [.lit (.bool false)], args := [d], vars := [g1] }
  | _ => none }
def FnDigestsWrongFalsely : Prop := fnDigestsRow.holds Tryd.pinned (OpenSpec.ofChange fnDigestsWrong)

/-- 'laws.FnHashers': WHATEVER THE INPUT: true; the input reads as it did. -/
def fnHashersSpec : ChangeSpec := { name := "fnHashers", vars := ["loop.example/g00186/impl.roundKeys"], fn := fun _ => fun
  | [d, g1] => { results := [.lit (.bool true)], args := [d], vars := [g1] }
  | _ => none }
def fnHashersRow : OpenClaim := { program := "ytlddohppkcndjaadoor", sum := "cbcdba5e787c98fac0c6e46f75640fc9c37a1663f30020dc325cfb14bfb61167", func := "loop.example/g00186/laws.FnHashers", spec := "fnHashers", named := ["loop.example/g00186/impl.roundKeys"], apart := false, laid := [("loop.example/g00186/impl.roundKeys", laid_loop_example_g00186_impl_roundKeys)] }
def FnHashersSaid : Prop := fnHashersRow.holds Tryd.pinned (OpenSpec.ofChange fnHashersSpec)

/-- ITS FALSE NEIGHBOUR: 'it returns false'. Refute it at one input. -/
def fnHashersWrong : ChangeSpec := { name := "fnHashers", vars := ["loop.example/g00186/impl.roundKeys"], fn := fun _ => fun
  | [d, g1] => { results := [.lit (.bool false)], args := [d], vars := [g1] }
  | _ => none }
def FnHashersWrongFalsely : Prop := fnHashersRow.holds Tryd.pinned (OpenSpec.ofChange fnHashersWrong)

/-- 'laws.FnMacs': WHATEVER THE INPUT: true; the input reads as it did. -/
def fnMacsSpec : ChangeSpec := { name := "fnMacs", vars := ["loop.example/g00186/impl.roundKeys"], fn := fun _ => fun
  | [d, g1] => { results := [.lit (.bool true)], args := [d], vars := [g1] }
  | _ => none }
def fnMacsRow : OpenClaim := { program := "ytlddohppkcndjaadoor", sum := "cbcdba5e787c98fac0c6e46f75640fc9c37a1663f30020dc325cfb14bfb61167", func := "loop.example/g00186/laws.FnMacs", spec := "fnMacs", named := ["loop.example/g00186/impl.roundKeys"], apart := false, laid := [("loop.example/g00186/impl.roundKeys", laid_loop_example_g00186_impl_roundKeys)] }
def FnMacsSaid : Prop := fnMacsRow.holds Tryd.pinned (OpenSpec.ofChange fnMacsSpec)

/-- ITS FALSE NEIGHBOUR: 'it returns false'. Refute it at one input. -/
def fnMacsWrong : ChangeSpec := { name := "fnMacs", vars := ["loop.example/g00186/impl.roundKeys"], fn := fun _ => fun
  | [d, g1] => { results := [.lit (.bool false)], args := [d], vars := [g1] }
  | _ => none }
def FnMacsWrongFalsely : Prop := fnMacsRow.holds Tryd.pinned (OpenSpec.ofChange fnMacsWrong)

/-- 'laws.FnPools': WHATEVER THE INPUT: true; the input reads as it did. -/
def fnPoolsSpec : ChangeSpec := { name := "fnPools", vars := ["loop.example/g00186/impl.roundKeys"], fn := fun _ => fun
  | [d, g1] => { results := [.lit (.bool true)], args := [d], vars := [g1] }
  | _ => none }
def fnPoolsRow : OpenClaim := { program := "ytlddohppkcndjaadoor", sum := "cbcdba5e787c98fac0c6e46f75640fc9c37a1663f30020dc325cfb14bfb61167", func := "loop.example/g00186/laws.FnPools", spec := "fnPools", named := ["loop.example/g00186/impl.roundKeys"], apart := false, laid := [("loop.example/g00186/impl.roundKeys", laid_loop_example_g00186_impl_roundKeys)] }
def FnPoolsSaid : Prop := fnPoolsRow.holds Tryd.pinned (OpenSpec.ofChange fnPoolsSpec)

/-- ITS FALSE NEIGHBOUR: 'it returns false'. Refute it at one input. -/
def fnPoolsWrong : ChangeSpec := { name := "fnPools", vars := ["loop.example/g00186/impl.roundKeys"], fn := fun _ => fun
  | [d, g1] => { results := [.lit (.bool false)], args := [d], vars := [g1] }
  | _ => none }
def FnPoolsWrongFalsely : Prop := fnPoolsRow.holds Tryd.pinned (OpenSpec.ofChange fnPoolsWrong)

/- THE SECOND FORM. 'bulk': how many values and letters a reading holds, each counted each time it is reached (what is shared counts as often as it is met; a slice's spare places count too). A statement '..UptoSaid' is the law's where the arguments, and the package variables that the reading takes, are together of bulk at most 1048576: NARROWER than '..Said'. Prove '..Said' where nothing that the law and all that it calls make is longer than what came in: it says more and counts as full. Else prove '..UptoSaid'. A law counts once. -/
mutual
def uptoBulk {H : Type} : DataW H → Nat
  | .lit (.string bytes) => bytes.length + 1
  | .lit _ => 1
  | .nil => 1
  | .ptr d => uptoBulk d + 1
  | .slice elems spare => uptoBulkAll elems + uptoBulkAll spare + 1
  | .agg parts => uptoBulkAll parts + 1
  | .iface _ d => uptoBulk d + 1
  | .map entries => uptoBulkEntries entries + 1
  | .held _ => 1
def uptoBulkAll {H : Type} : List (DataW H) → Nat
  | [] => 0
  | d :: r => uptoBulk d + uptoBulkAll r
def uptoBulkEntries {H : Type} : List (Lit × DataW H) → Nat
  | [] => 0
  | x :: r => uptoBulkEntry x + uptoBulkEntries r
def uptoBulkEntry {H : Type} : Lit × DataW H → Nat
  | (.string bytes, d) => bytes.length + uptoBulk d + 1
  | (_, d) => uptoBulk d + 1
 end
def uptoSmall : (H : Type) → List (DataW H) → Bool := fun _ ds => decide (uptoBulkAll ds ≤ 1048576)
def OpenSpec.upto (s : _root_.Go.ChangeSpec) : _root_.Go.OpenSpec := { _root_.Go.OpenSpec.ofChange s with cond := some uptoSmall }

/-- 'laws.FnExactDigestOf', WHERE WHAT IT READS IS OF BULK AT MOST 1048576: true; the input reads as it did. -/
def fnExactDigestOfUptoRow : OpenClaim := { program := "ytlddohppkcndjaadoor", sum := "cbcdba5e787c98fac0c6e46f75640fc9c37a1663f30020dc325cfb14bfb61167", func := "loop.example/g00186/laws.FnExactDigestOf", spec := "fnExactDigestOf", named := ["loop.example/g00186/impl.roundKeys"], apart := false, laid := [("loop.example/g00186/impl.roundKeys", laid_loop_example_g00186_impl_roundKeys)], narrowed := true }
def FnExactDigestOfUptoSaid : Prop := fnExactDigestOfUptoRow.holds Tryd.pinned (OpenSpec.upto fnExactDigestOfSpec)

/-- 'laws.FnExactHashMore', WHERE WHAT IT READS IS OF BULK AT MOST 1048576: true; the input reads as it did. -/
def fnExactHashMoreUptoRow : OpenClaim := { program := "ytlddohppkcndjaadoor", sum := "cbcdba5e787c98fac0c6e46f75640fc9c37a1663f30020dc325cfb14bfb61167", func := "loop.example/g00186/laws.FnExactHashMore", spec := "fnExactHashMore", named := ["loop.example/g00186/impl.roundKeys"], apart := false, laid := [("loop.example/g00186/impl.roundKeys", laid_loop_example_g00186_impl_roundKeys)], narrowed := true }
def FnExactHashMoreUptoSaid : Prop := fnExactHashMoreUptoRow.holds Tryd.pinned (OpenSpec.upto fnExactHashMoreSpec)

/-- 'laws.FnExactHashEnd', WHERE WHAT IT READS IS OF BULK AT MOST 1048576: true; the input reads as it did. -/
def fnExactHashEndUptoRow : OpenClaim := { program := "ytlddohppkcndjaadoor", sum := "cbcdba5e787c98fac0c6e46f75640fc9c37a1663f30020dc325cfb14bfb61167", func := "loop.example/g00186/laws.FnExactHashEnd", spec := "fnExactHashEnd", named := ["loop.example/g00186/impl.roundKeys"], apart := false, laid := [("loop.example/g00186/impl.roundKeys", laid_loop_example_g00186_impl_roundKeys)], narrowed := true }
def FnExactHashEndUptoSaid : Prop := fnExactHashEndUptoRow.holds Tryd.pinned (OpenSpec.upto fnExactHashEndSpec)

/-- 'laws.FnExactMacOf', WHERE WHAT IT READS IS OF BULK AT MOST 1048576: true; the input reads as it did. -/
def fnExactMacOfUptoRow : OpenClaim := { program := "ytlddohppkcndjaadoor", sum := "cbcdba5e787c98fac0c6e46f75640fc9c37a1663f30020dc325cfb14bfb61167", func := "loop.example/g00186/laws.FnExactMacOf", spec := "fnExactMacOf", named := ["loop.example/g00186/impl.roundKeys"], apart := false, laid := [("loop.example/g00186/impl.roundKeys", laid_loop_example_g00186_impl_roundKeys)], narrowed := true }
def FnExactMacOfUptoSaid : Prop := fnExactMacOfUptoRow.holds Tryd.pinned (OpenSpec.upto fnExactMacOfSpec)

/-- 'laws.FnExactExpand', WHERE WHAT IT READS IS OF BULK AT MOST 1048576: true; the input reads as it did. -/
def fnExactExpandUptoRow : OpenClaim := { program := "ytlddohppkcndjaadoor", sum := "cbcdba5e787c98fac0c6e46f75640fc9c37a1663f30020dc325cfb14bfb61167", func := "loop.example/g00186/laws.FnExactExpand", spec := "fnExactExpand", named := ["loop.example/g00186/impl.roundKeys"], apart := false, laid := [("loop.example/g00186/impl.roundKeys", laid_loop_example_g00186_impl_roundKeys)], narrowed := true }
def FnExactExpandUptoSaid : Prop := fnExactExpandUptoRow.holds Tryd.pinned (OpenSpec.upto fnExactExpandSpec)

/-- 'laws.FnExactPoolNew', WHERE WHAT IT READS IS OF BULK AT MOST 1048576: true; the input reads as it did. -/
def fnExactPoolNewUptoRow : OpenClaim := { program := "ytlddohppkcndjaadoor", sum := "cbcdba5e787c98fac0c6e46f75640fc9c37a1663f30020dc325cfb14bfb61167", func := "loop.example/g00186/laws.FnExactPoolNew", spec := "fnExactPoolNew", named := ["loop.example/g00186/impl.roundKeys"], apart := false, laid := [("loop.example/g00186/impl.roundKeys", laid_loop_example_g00186_impl_roundKeys)], narrowed := true }
def FnExactPoolNewUptoSaid : Prop := fnExactPoolNewUptoRow.holds Tryd.pinned (OpenSpec.upto fnExactPoolNewSpec)

/-- 'laws.FnExactPoolTake', WHERE WHAT IT READS IS OF BULK AT MOST 1048576: true; the input reads as it did. -/
def fnExactPoolTakeUptoRow : OpenClaim := { program := "ytlddohppkcndjaadoor", sum := "cbcdba5e787c98fac0c6e46f75640fc9c37a1663f30020dc325cfb14bfb61167", func := "loop.example/g00186/laws.FnExactPoolTake", spec := "fnExactPoolTake", named := ["loop.example/g00186/impl.roundKeys"], apart := false, laid := [("loop.example/g00186/impl.roundKeys", laid_loop_example_g00186_impl_roundKeys)], narrowed := true }
def FnExactPoolTakeUptoSaid : Prop := fnExactPoolTakeUptoRow.holds Tryd.pinned (OpenSpec.upto fnExactPoolTakeSpec)

/-- 'laws.FnExactPoolFeed', WHERE WHAT IT READS IS OF BULK AT MOST 1048576: true; the input reads as it did. -/
def fnExactPoolFeedUptoRow : OpenClaim := { program := "ytlddohppkcndjaadoor", sum := "cbcdba5e787c98fac0c6e46f75640fc9c37a1663f30020dc325cfb14bfb61167", func := "loop.example/g00186/laws.FnExactPoolFeed", spec := "fnExactPoolFeed", named := ["loop.example/g00186/impl.roundKeys"], apart := false, laid := [("loop.example/g00186/impl.roundKeys", laid_loop_example_g00186_impl_roundKeys)], narrowed := true }
def FnExactPoolFeedUptoSaid : Prop := fnExactPoolFeedUptoRow.holds Tryd.pinned (OpenSpec.upto fnExactPoolFeedSpec)

/-- 'laws.FnDigests', WHERE WHAT IT READS IS OF BULK AT MOST 1048576: true; the input reads as it did. -/
def fnDigestsUptoRow : OpenClaim := { program := "ytlddohppkcndjaadoor", sum := "cbcdba5e787c98fac0c6e46f75640fc9c37a1663f30020dc325cfb14bfb61167", func := "loop.example/g00186/laws.FnDigests", spec := "fnDigests", named := ["loop.example/g00186/impl.roundKeys"], apart := false, laid := [("loop.example/g00186/impl.roundKeys", laid_loop_example_g00186_impl_roundKeys)], narrowed := true }
def FnDigestsUptoSaid : Prop := fnDigestsUptoRow.holds Tryd.pinned (OpenSpec.upto fnDigestsSpec)

/-- 'laws.FnHashers', WHERE WHAT IT READS IS OF BULK AT MOST 1048576: true; the input reads as it did. -/
def fnHashersUptoRow : OpenClaim := { program := "ytlddohppkcndjaadoor", sum := "cbcdba5e787c98fac0c6e46f75640fc9c37a1663f30020dc325cfb14bfb61167", func := "loop.example/g00186/laws.FnHashers", spec := "fnHashers", named := ["loop.example/g00186/impl.roundKeys"], apart := false, laid := [("loop.example/g00186/impl.roundKeys", laid_loop_example_g00186_impl_roundKeys)], narrowed := true }
def FnHashersUptoSaid : Prop := fnHashersUptoRow.holds Tryd.pinned (OpenSpec.upto fnHashersSpec)

/-- 'laws.FnMacs', WHERE WHAT IT READS IS OF BULK AT MOST 1048576: true; the input reads as it did. -/
def fnMacsUptoRow : OpenClaim := { program := "ytlddohppkcndjaadoor", sum := "cbcdba5e787c98fac0c6e46f75640fc9c37a1663f30020dc325cfb14bfb61167", func := "loop.example/g00186/laws.FnMacs", spec := "fnMacs", named := ["loop.example/g00186/impl.roundKeys"], apart := false, laid := [("loop.example/g00186/impl.roundKeys", laid_loop_example_g00186_impl_roundKeys)], narrowed := true }
def FnMacsUptoSaid : Prop := fnMacsUptoRow.holds Tryd.pinned (OpenSpec.upto fnMacsSpec)

/-- 'laws.FnPools', WHERE WHAT IT READS IS OF BULK AT MOST 1048576: true; the input reads as it did. -/
def fnPoolsUptoRow : OpenClaim := { program := "ytlddohppkcndjaadoor", sum := "cbcdba5e787c98fac0c6e46f75640fc9c37a1663f30020dc325cfb14bfb61167", func := "loop.example/g00186/laws.FnPools", spec := "fnPools", named := ["loop.example/g00186/impl.roundKeys"], apart := false, laid := [("loop.example/g00186/impl.roundKeys", laid_loop_example_g00186_impl_roundKeys)], narrowed := true }
def FnPoolsUptoSaid : Prop := fnPoolsUptoRow.holds Tryd.pinned (OpenSpec.upto fnPoolsSpec)

end Rows
end Go.Proofs.YtlddohppkcndjaaDoor
