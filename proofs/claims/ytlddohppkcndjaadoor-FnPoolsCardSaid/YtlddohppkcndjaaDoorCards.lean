/-
  DERIVED. GIVEN WITH THE SEED: THE CARDS: each row of YtlddohppkcndjaaDoorRows.lean that lists a variable, with what it lists TIED to the program's text (the seventh form; the later family's looks); each row that meets fmt, with fmt's text TOLD by the authors' own Lean function (tested against real Go, not proved from fmt's source: count such statements apart). THE CARD IS WHAT COUNTS. Prove the row's statement (the work); the ties are given (YtlddohppkcndjaaDoorTie.lean); close each card by the builder's one call (the guide's Derived/Test/ToyasCard.lean, 'card_holds'). Laid BY PROGRAM, IN A SANDBOX (cutbox-door.mjs). By AI agents, Wed Nov 11 2026. No macro, syntax, notation, axiom, sorry.
-/
import Derived.Test.YtlddohppkcndjaaDoorRows
import GoSem.ClaimSeven
namespace Go.Proofs.YtlddohppkcndjaaDoor
namespace Rows

/-- THE TIED CARD OF 'laws.FnExactDigestOf'. -/
def fnExactDigestOfCard : Claim7 := { stood := { row := fnExactDigestOfRow, standIns := [], harness := (true, "7cb84be03f3611c0af5199cc94369cb64cbea2ef8729b6d85b8d226e7c94a64d"), looks := false }, kinds := [], alts := [], laidByText := true, laidKinds := [.data], laidTests := true, laidLooks := .later }
def FnExactDigestOfCardSaid : Prop := Claim7.holds Tryd.pinned (.plain (OpenSpec.ofChange fnExactDigestOfSpec)) fnExactDigestOfCard

/-- THE TIED CARD OF 'laws.FnExactHashMore'. -/
def fnExactHashMoreCard : Claim7 := { stood := { row := fnExactHashMoreRow, standIns := [], harness := (true, "7cb84be03f3611c0af5199cc94369cb64cbea2ef8729b6d85b8d226e7c94a64d"), looks := false }, kinds := [], alts := [], laidByText := true, laidKinds := [.data], laidTests := true, laidLooks := .later }
def FnExactHashMoreCardSaid : Prop := Claim7.holds Tryd.pinned (.plain (OpenSpec.ofChange fnExactHashMoreSpec)) fnExactHashMoreCard

/-- THE TIED CARD OF 'laws.FnExactHashEnd'. -/
def fnExactHashEndCard : Claim7 := { stood := { row := fnExactHashEndRow, standIns := [], harness := (true, "7cb84be03f3611c0af5199cc94369cb64cbea2ef8729b6d85b8d226e7c94a64d"), looks := false }, kinds := [], alts := [], laidByText := true, laidKinds := [.data], laidTests := true, laidLooks := .later }
def FnExactHashEndCardSaid : Prop := Claim7.holds Tryd.pinned (.plain (OpenSpec.ofChange fnExactHashEndSpec)) fnExactHashEndCard

/-- THE TIED CARD OF 'laws.FnExactMacOf'. -/
def fnExactMacOfCard : Claim7 := { stood := { row := fnExactMacOfRow, standIns := [], harness := (true, "7cb84be03f3611c0af5199cc94369cb64cbea2ef8729b6d85b8d226e7c94a64d"), looks := false }, kinds := [], alts := [], laidByText := true, laidKinds := [.data], laidTests := true, laidLooks := .later }
def FnExactMacOfCardSaid : Prop := Claim7.holds Tryd.pinned (.plain (OpenSpec.ofChange fnExactMacOfSpec)) fnExactMacOfCard

/-- THE TIED CARD OF 'laws.FnExactExpand'. -/
def fnExactExpandCard : Claim7 := { stood := { row := fnExactExpandRow, standIns := [], harness := (true, "7cb84be03f3611c0af5199cc94369cb64cbea2ef8729b6d85b8d226e7c94a64d"), looks := false }, kinds := [], alts := [], laidByText := true, laidKinds := [.data], laidTests := true, laidLooks := .later }
def FnExactExpandCardSaid : Prop := Claim7.holds Tryd.pinned (.plain (OpenSpec.ofChange fnExactExpandSpec)) fnExactExpandCard

/-- THE TIED CARD OF 'laws.FnExactPoolNew'. -/
def fnExactPoolNewCard : Claim7 := { stood := { row := fnExactPoolNewRow, standIns := [], harness := (true, "7cb84be03f3611c0af5199cc94369cb64cbea2ef8729b6d85b8d226e7c94a64d"), looks := false }, kinds := [], alts := [], laidByText := true, laidKinds := [.data], laidTests := true, laidLooks := .later }
def FnExactPoolNewCardSaid : Prop := Claim7.holds Tryd.pinned (.plain (OpenSpec.ofChange fnExactPoolNewSpec)) fnExactPoolNewCard

/-- THE TIED CARD OF 'laws.FnExactPoolTake'. -/
def fnExactPoolTakeCard : Claim7 := { stood := { row := fnExactPoolTakeRow, standIns := [], harness := (true, "7cb84be03f3611c0af5199cc94369cb64cbea2ef8729b6d85b8d226e7c94a64d"), looks := false }, kinds := [], alts := [], laidByText := true, laidKinds := [.data], laidTests := true, laidLooks := .later }
def FnExactPoolTakeCardSaid : Prop := Claim7.holds Tryd.pinned (.plain (OpenSpec.ofChange fnExactPoolTakeSpec)) fnExactPoolTakeCard

/-- THE TIED CARD OF 'laws.FnExactPoolFeed'. -/
def fnExactPoolFeedCard : Claim7 := { stood := { row := fnExactPoolFeedRow, standIns := [], harness := (true, "7cb84be03f3611c0af5199cc94369cb64cbea2ef8729b6d85b8d226e7c94a64d"), looks := false }, kinds := [], alts := [], laidByText := true, laidKinds := [.data], laidTests := true, laidLooks := .later }
def FnExactPoolFeedCardSaid : Prop := Claim7.holds Tryd.pinned (.plain (OpenSpec.ofChange fnExactPoolFeedSpec)) fnExactPoolFeedCard

/-- THE TIED CARD OF 'laws.FnDigests'. -/
def fnDigestsCard : Claim7 := { stood := { row := fnDigestsRow, standIns := [], harness := (true, "7cb84be03f3611c0af5199cc94369cb64cbea2ef8729b6d85b8d226e7c94a64d"), looks := false }, kinds := [], alts := [], laidByText := true, laidKinds := [.data], laidTests := true, laidLooks := .later }
def FnDigestsCardSaid : Prop := Claim7.holds Tryd.pinned (.plain (OpenSpec.ofChange fnDigestsSpec)) fnDigestsCard

/-- THE TIED CARD OF 'laws.FnHashers'. -/
def fnHashersCard : Claim7 := { stood := { row := fnHashersRow, standIns := [], harness := (true, "7cb84be03f3611c0af5199cc94369cb64cbea2ef8729b6d85b8d226e7c94a64d"), looks := false }, kinds := [], alts := [], laidByText := true, laidKinds := [.data], laidTests := true, laidLooks := .later }
def FnHashersCardSaid : Prop := Claim7.holds Tryd.pinned (.plain (OpenSpec.ofChange fnHashersSpec)) fnHashersCard

/-- THE TIED CARD OF 'laws.FnMacs'. -/
def fnMacsCard : Claim7 := { stood := { row := fnMacsRow, standIns := [], harness := (true, "7cb84be03f3611c0af5199cc94369cb64cbea2ef8729b6d85b8d226e7c94a64d"), looks := false }, kinds := [], alts := [], laidByText := true, laidKinds := [.data], laidTests := true, laidLooks := .later }
def FnMacsCardSaid : Prop := Claim7.holds Tryd.pinned (.plain (OpenSpec.ofChange fnMacsSpec)) fnMacsCard

/-- THE TIED CARD OF 'laws.FnPools'. -/
def fnPoolsCard : Claim7 := { stood := { row := fnPoolsRow, standIns := [], harness := (true, "7cb84be03f3611c0af5199cc94369cb64cbea2ef8729b6d85b8d226e7c94a64d"), looks := false }, kinds := [], alts := [], laidByText := true, laidKinds := [.data], laidTests := true, laidLooks := .later }
def FnPoolsCardSaid : Prop := Claim7.holds Tryd.pinned (.plain (OpenSpec.ofChange fnPoolsSpec)) fnPoolsCard

/-- THE SECOND FORM's CARD OF 'laws.FnExactDigestOf'. -/
def fnExactDigestOfUptoCard : Claim7 := { stood := { row := fnExactDigestOfUptoRow, standIns := [], harness := (true, "7cb84be03f3611c0af5199cc94369cb64cbea2ef8729b6d85b8d226e7c94a64d"), looks := false }, kinds := [], alts := [], laidByText := true, laidKinds := [.data], laidTests := true, laidLooks := .later }
def FnExactDigestOfUptoCardSaid : Prop := Claim7.holds Tryd.pinned (.plain (OpenSpec.upto fnExactDigestOfSpec)) fnExactDigestOfUptoCard

/-- THE SECOND FORM's CARD OF 'laws.FnExactHashMore'. -/
def fnExactHashMoreUptoCard : Claim7 := { stood := { row := fnExactHashMoreUptoRow, standIns := [], harness := (true, "7cb84be03f3611c0af5199cc94369cb64cbea2ef8729b6d85b8d226e7c94a64d"), looks := false }, kinds := [], alts := [], laidByText := true, laidKinds := [.data], laidTests := true, laidLooks := .later }
def FnExactHashMoreUptoCardSaid : Prop := Claim7.holds Tryd.pinned (.plain (OpenSpec.upto fnExactHashMoreSpec)) fnExactHashMoreUptoCard

/-- THE SECOND FORM's CARD OF 'laws.FnExactHashEnd'. -/
def fnExactHashEndUptoCard : Claim7 := { stood := { row := fnExactHashEndUptoRow, standIns := [], harness := (true, "7cb84be03f3611c0af5199cc94369cb64cbea2ef8729b6d85b8d226e7c94a64d"), looks := false }, kinds := [], alts := [], laidByText := true, laidKinds := [.data], laidTests := true, laidLooks := .later }
def FnExactHashEndUptoCardSaid : Prop := Claim7.holds Tryd.pinned (.plain (OpenSpec.upto fnExactHashEndSpec)) fnExactHashEndUptoCard

/-- THE SECOND FORM's CARD OF 'laws.FnExactMacOf'. -/
def fnExactMacOfUptoCard : Claim7 := { stood := { row := fnExactMacOfUptoRow, standIns := [], harness := (true, "7cb84be03f3611c0af5199cc94369cb64cbea2ef8729b6d85b8d226e7c94a64d"), looks := false }, kinds := [], alts := [], laidByText := true, laidKinds := [.data], laidTests := true, laidLooks := .later }
def FnExactMacOfUptoCardSaid : Prop := Claim7.holds Tryd.pinned (.plain (OpenSpec.upto fnExactMacOfSpec)) fnExactMacOfUptoCard

/-- THE SECOND FORM's CARD OF 'laws.FnExactExpand'. -/
def fnExactExpandUptoCard : Claim7 := { stood := { row := fnExactExpandUptoRow, standIns := [], harness := (true, "7cb84be03f3611c0af5199cc94369cb64cbea2ef8729b6d85b8d226e7c94a64d"), looks := false }, kinds := [], alts := [], laidByText := true, laidKinds := [.data], laidTests := true, laidLooks := .later }
def FnExactExpandUptoCardSaid : Prop := Claim7.holds Tryd.pinned (.plain (OpenSpec.upto fnExactExpandSpec)) fnExactExpandUptoCard

/-- THE SECOND FORM's CARD OF 'laws.FnExactPoolNew'. -/
def fnExactPoolNewUptoCard : Claim7 := { stood := { row := fnExactPoolNewUptoRow, standIns := [], harness := (true, "7cb84be03f3611c0af5199cc94369cb64cbea2ef8729b6d85b8d226e7c94a64d"), looks := false }, kinds := [], alts := [], laidByText := true, laidKinds := [.data], laidTests := true, laidLooks := .later }
def FnExactPoolNewUptoCardSaid : Prop := Claim7.holds Tryd.pinned (.plain (OpenSpec.upto fnExactPoolNewSpec)) fnExactPoolNewUptoCard

/-- THE SECOND FORM's CARD OF 'laws.FnExactPoolTake'. -/
def fnExactPoolTakeUptoCard : Claim7 := { stood := { row := fnExactPoolTakeUptoRow, standIns := [], harness := (true, "7cb84be03f3611c0af5199cc94369cb64cbea2ef8729b6d85b8d226e7c94a64d"), looks := false }, kinds := [], alts := [], laidByText := true, laidKinds := [.data], laidTests := true, laidLooks := .later }
def FnExactPoolTakeUptoCardSaid : Prop := Claim7.holds Tryd.pinned (.plain (OpenSpec.upto fnExactPoolTakeSpec)) fnExactPoolTakeUptoCard

/-- THE SECOND FORM's CARD OF 'laws.FnExactPoolFeed'. -/
def fnExactPoolFeedUptoCard : Claim7 := { stood := { row := fnExactPoolFeedUptoRow, standIns := [], harness := (true, "7cb84be03f3611c0af5199cc94369cb64cbea2ef8729b6d85b8d226e7c94a64d"), looks := false }, kinds := [], alts := [], laidByText := true, laidKinds := [.data], laidTests := true, laidLooks := .later }
def FnExactPoolFeedUptoCardSaid : Prop := Claim7.holds Tryd.pinned (.plain (OpenSpec.upto fnExactPoolFeedSpec)) fnExactPoolFeedUptoCard

/-- THE SECOND FORM's CARD OF 'laws.FnDigests'. -/
def fnDigestsUptoCard : Claim7 := { stood := { row := fnDigestsUptoRow, standIns := [], harness := (true, "7cb84be03f3611c0af5199cc94369cb64cbea2ef8729b6d85b8d226e7c94a64d"), looks := false }, kinds := [], alts := [], laidByText := true, laidKinds := [.data], laidTests := true, laidLooks := .later }
def FnDigestsUptoCardSaid : Prop := Claim7.holds Tryd.pinned (.plain (OpenSpec.upto fnDigestsSpec)) fnDigestsUptoCard

/-- THE SECOND FORM's CARD OF 'laws.FnHashers'. -/
def fnHashersUptoCard : Claim7 := { stood := { row := fnHashersUptoRow, standIns := [], harness := (true, "7cb84be03f3611c0af5199cc94369cb64cbea2ef8729b6d85b8d226e7c94a64d"), looks := false }, kinds := [], alts := [], laidByText := true, laidKinds := [.data], laidTests := true, laidLooks := .later }
def FnHashersUptoCardSaid : Prop := Claim7.holds Tryd.pinned (.plain (OpenSpec.upto fnHashersSpec)) fnHashersUptoCard

/-- THE SECOND FORM's CARD OF 'laws.FnMacs'. -/
def fnMacsUptoCard : Claim7 := { stood := { row := fnMacsUptoRow, standIns := [], harness := (true, "7cb84be03f3611c0af5199cc94369cb64cbea2ef8729b6d85b8d226e7c94a64d"), looks := false }, kinds := [], alts := [], laidByText := true, laidKinds := [.data], laidTests := true, laidLooks := .later }
def FnMacsUptoCardSaid : Prop := Claim7.holds Tryd.pinned (.plain (OpenSpec.upto fnMacsSpec)) fnMacsUptoCard

/-- THE SECOND FORM's CARD OF 'laws.FnPools'. -/
def fnPoolsUptoCard : Claim7 := { stood := { row := fnPoolsUptoRow, standIns := [], harness := (true, "7cb84be03f3611c0af5199cc94369cb64cbea2ef8729b6d85b8d226e7c94a64d"), looks := false }, kinds := [], alts := [], laidByText := true, laidKinds := [.data], laidTests := true, laidLooks := .later }
def FnPoolsUptoCardSaid : Prop := Claim7.holds Tryd.pinned (.plain (OpenSpec.upto fnPoolsSpec)) fnPoolsUptoCard
end Rows
end Go.Proofs.YtlddohppkcndjaaDoor
