/-
  DERIVED. GIVEN WITH THE SEED: THE CARDS: each row of YtndcajdameofjaaGreatDoorRows.lean that lists a variable, with what it lists TIED to the program's text (the seventh form; the later family's looks); each row that meets fmt, with fmt's text TOLD by the authors' own Lean function (tested against real Go, not proved from fmt's source: count such statements apart). THE CARD IS WHAT COUNTS. Prove the row's statement (the work); the ties are given (YtndcajdameofjaaGreatDoorTie.lean); close each card by the builder's one call (the guide's Derived/Test/ToyasCard.lean, 'card_holds'). Laid BY PROGRAM, IN A SANDBOX (cutbox-door.mjs). By AI agents, Wed Nov 11 2026. No macro, syntax, notation, axiom, sorry.
-/
import Derived.Test.YtndcajdameofjaaGreatDoorRows
import GoSem.ClaimSeven
namespace Go.Proofs.YtndcajdameofjaaGreatDoor
namespace Rows

/-- THE TIED CARD OF 'riparianlaw04.ProgGoals'. -/
def progGoalsCard : Claim7 := { stood := { row := progGoalsRow, standIns := [], harness := (true, "7236a39b1eabb949023bf3950cd45d7949f3e8a0e4288c403ba7a4191ad4bfc4"), looks := true }, kinds := [], alts := [], laidByText := true, laidKinds := [.widerDeep], laidTests := true, laidLooks := .later }
def ProgGoalsCardSaid : Prop := Claim7.holds Tryz.pinned (.plain (OpenSpec.ofChange progGoalsSpec)) progGoalsCard

/-- THE TIED CARD OF 'riparianlaw04.ProgWritten'. -/
def progWrittenCard : Claim7 := { stood := { row := progWrittenRow, standIns := [], harness := (true, "7236a39b1eabb949023bf3950cd45d7949f3e8a0e4288c403ba7a4191ad4bfc4"), looks := true }, kinds := [], alts := [], laidByText := true, laidKinds := [.widerDeep], laidTests := true, laidLooks := .later }
def ProgWrittenCardSaid : Prop := Claim7.holds Tryz.pinned (.plain (OpenSpec.ofChange progWrittenSpec)) progWrittenCard

/-- THE TIED CARD OF 'riparianlaw04.ProgTerms'. -/
def progTermsCard : Claim7 := { stood := { row := progTermsRow, standIns := [], harness := (true, "7236a39b1eabb949023bf3950cd45d7949f3e8a0e4288c403ba7a4191ad4bfc4"), looks := true }, kinds := [], alts := [], laidByText := true, laidKinds := [.widerDeep], laidTests := true, laidLooks := .later }
def ProgTermsCardSaid : Prop := Claim7.holds Tryz.pinned (.plain (OpenSpec.ofChange progTermsSpec)) progTermsCard

/-- THE TIED CARD OF 'riparianlaw04.ProgKept'. -/
def progKeptCard : Claim7 := { stood := { row := progKeptRow, standIns := [], harness := (true, "7236a39b1eabb949023bf3950cd45d7949f3e8a0e4288c403ba7a4191ad4bfc4"), looks := true }, kinds := [], alts := [], laidByText := true, laidKinds := [.widerDeep], laidTests := true, laidLooks := .later }
def ProgKeptCardSaid : Prop := Claim7.holds Tryz.pinned (.plain (OpenSpec.ofChange progKeptSpec)) progKeptCard

/-- THE TIED CARD OF 'riparianlaw04.ProgChecks'. -/
def progChecksCard : Claim7 := { stood := { row := progChecksRow, standIns := [], harness := (true, "7236a39b1eabb949023bf3950cd45d7949f3e8a0e4288c403ba7a4191ad4bfc4"), looks := true }, kinds := [], alts := [], laidByText := true, laidKinds := [.widerDeep], laidTests := true, laidLooks := .later }
def ProgChecksCardSaid : Prop := Claim7.holds Tryz.pinned (.plain (OpenSpec.ofChange progChecksSpec)) progChecksCard

/-- THE TIED CARD OF 'riparianlaw04.ProgFresh'. -/
def progFreshCard : Claim7 := { stood := { row := progFreshRow, standIns := [], harness := (true, "7236a39b1eabb949023bf3950cd45d7949f3e8a0e4288c403ba7a4191ad4bfc4"), looks := true }, kinds := [], alts := [], laidByText := true, laidKinds := [.widerDeep], laidTests := true, laidLooks := .later }
def ProgFreshCardSaid : Prop := Claim7.holds Tryz.pinned (.plain (OpenSpec.ofChange progFreshSpec)) progFreshCard

/-- THE TIED CARD OF 'riparianlaw04.ProgComponents'. -/
def progComponentsCard : Claim7 := { stood := { row := progComponentsRow, standIns := [], harness := (true, "7236a39b1eabb949023bf3950cd45d7949f3e8a0e4288c403ba7a4191ad4bfc4"), looks := true }, kinds := [], alts := [], laidByText := true, laidKinds := [.widerDeep], laidTests := true, laidLooks := .later }
def ProgComponentsCardSaid : Prop := Claim7.holds Tryz.pinned (.plain (OpenSpec.ofChange progComponentsSpec)) progComponentsCard

/-- THE TIED CARD OF 'riparianlaw04.ProgCalls'. -/
def progCallsCard : Claim7 := { stood := { row := progCallsRow, standIns := [], harness := (true, "7236a39b1eabb949023bf3950cd45d7949f3e8a0e4288c403ba7a4191ad4bfc4"), looks := true }, kinds := [], alts := [], laidByText := true, laidKinds := [.widerDeep], laidTests := true, laidLooks := .later }
def ProgCallsCardSaid : Prop := Claim7.holds Tryz.pinned (.plain (OpenSpec.ofChange progCallsSpec)) progCallsCard

/-- THE TIED CARD OF 'riparianlaw04.ProgTrims'. -/
def progTrimsCard : Claim7 := { stood := { row := progTrimsRow, standIns := [], harness := (true, "7236a39b1eabb949023bf3950cd45d7949f3e8a0e4288c403ba7a4191ad4bfc4"), looks := true }, kinds := [], alts := [], laidByText := true, laidKinds := [.widerDeep], laidTests := true, laidLooks := .later }
def ProgTrimsCardSaid : Prop := Claim7.holds Tryz.pinned (.plain (OpenSpec.ofChange progTrimsSpec)) progTrimsCard

/-- THE TIED CARD OF 'riparianlaw04.ProgJoins'. -/
def progJoinsCard : Claim7 := { stood := { row := progJoinsRow, standIns := [], harness := (true, "7236a39b1eabb949023bf3950cd45d7949f3e8a0e4288c403ba7a4191ad4bfc4"), looks := true }, kinds := [], alts := [], laidByText := true, laidKinds := [.widerDeep], laidTests := true, laidLooks := .later }
def ProgJoinsCardSaid : Prop := Claim7.holds Tryz.pinned (.plain (OpenSpec.ofChange progJoinsSpec)) progJoinsCard

/-- THE TIED CARD OF 'riparianlaw04.ProgForms'. -/
def progFormsCard : Claim7 := { stood := { row := progFormsRow, standIns := [], harness := (true, "7236a39b1eabb949023bf3950cd45d7949f3e8a0e4288c403ba7a4191ad4bfc4"), looks := true }, kinds := [], alts := [], laidByText := true, laidKinds := [.widerDeep], laidTests := true, laidLooks := .later }
def ProgFormsCardSaid : Prop := Claim7.holds Tryz.pinned (.plain (OpenSpec.ofChange progFormsSpec)) progFormsCard

/-- THE TIED CARD OF 'riparianlaw04.ProgOrders'. -/
def progOrdersCard : Claim7 := { stood := { row := progOrdersRow, standIns := [], harness := (true, "7236a39b1eabb949023bf3950cd45d7949f3e8a0e4288c403ba7a4191ad4bfc4"), looks := true }, kinds := [], alts := [], laidByText := true, laidKinds := [.widerDeep], laidTests := true, laidLooks := .later }
def ProgOrdersCardSaid : Prop := Claim7.holds Tryz.pinned (.plain (OpenSpec.ofChange progOrdersSpec)) progOrdersCard

/-- THE TIED CARD OF 'riparianlaw04.ProgJoined'. -/
def progJoinedCard : Claim7 := { stood := { row := progJoinedRow, standIns := [], harness := (true, "7236a39b1eabb949023bf3950cd45d7949f3e8a0e4288c403ba7a4191ad4bfc4"), looks := true }, kinds := [], alts := [], laidByText := true, laidKinds := [.widerDeep], laidTests := true, laidLooks := .later }
def ProgJoinedCardSaid : Prop := Claim7.holds Tryz.pinned (.plain (OpenSpec.ofChange progJoinedSpec)) progJoinedCard

/-- THE SECOND FORM's CARD OF 'riparianlaw04.ProgGoals'. -/
def progGoalsUptoCard : Claim7 := { stood := { row := progGoalsUptoRow, standIns := [], harness := (true, "7236a39b1eabb949023bf3950cd45d7949f3e8a0e4288c403ba7a4191ad4bfc4"), looks := true }, kinds := [], alts := [], laidByText := true, laidKinds := [.widerDeep], laidTests := true, laidLooks := .later }
def ProgGoalsUptoCardSaid : Prop := Claim7.holds Tryz.pinned (.plain (OpenSpec.upto progGoalsSpec)) progGoalsUptoCard

/-- THE SECOND FORM's CARD OF 'riparianlaw04.ProgWritten'. -/
def progWrittenUptoCard : Claim7 := { stood := { row := progWrittenUptoRow, standIns := [], harness := (true, "7236a39b1eabb949023bf3950cd45d7949f3e8a0e4288c403ba7a4191ad4bfc4"), looks := true }, kinds := [], alts := [], laidByText := true, laidKinds := [.widerDeep], laidTests := true, laidLooks := .later }
def ProgWrittenUptoCardSaid : Prop := Claim7.holds Tryz.pinned (.plain (OpenSpec.upto progWrittenSpec)) progWrittenUptoCard

/-- THE SECOND FORM's CARD OF 'riparianlaw04.ProgTerms'. -/
def progTermsUptoCard : Claim7 := { stood := { row := progTermsUptoRow, standIns := [], harness := (true, "7236a39b1eabb949023bf3950cd45d7949f3e8a0e4288c403ba7a4191ad4bfc4"), looks := true }, kinds := [], alts := [], laidByText := true, laidKinds := [.widerDeep], laidTests := true, laidLooks := .later }
def ProgTermsUptoCardSaid : Prop := Claim7.holds Tryz.pinned (.plain (OpenSpec.upto progTermsSpec)) progTermsUptoCard

/-- THE SECOND FORM's CARD OF 'riparianlaw04.ProgKept'. -/
def progKeptUptoCard : Claim7 := { stood := { row := progKeptUptoRow, standIns := [], harness := (true, "7236a39b1eabb949023bf3950cd45d7949f3e8a0e4288c403ba7a4191ad4bfc4"), looks := true }, kinds := [], alts := [], laidByText := true, laidKinds := [.widerDeep], laidTests := true, laidLooks := .later }
def ProgKeptUptoCardSaid : Prop := Claim7.holds Tryz.pinned (.plain (OpenSpec.upto progKeptSpec)) progKeptUptoCard

/-- THE SECOND FORM's CARD OF 'riparianlaw04.ProgChecks'. -/
def progChecksUptoCard : Claim7 := { stood := { row := progChecksUptoRow, standIns := [], harness := (true, "7236a39b1eabb949023bf3950cd45d7949f3e8a0e4288c403ba7a4191ad4bfc4"), looks := true }, kinds := [], alts := [], laidByText := true, laidKinds := [.widerDeep], laidTests := true, laidLooks := .later }
def ProgChecksUptoCardSaid : Prop := Claim7.holds Tryz.pinned (.plain (OpenSpec.upto progChecksSpec)) progChecksUptoCard

/-- THE SECOND FORM's CARD OF 'riparianlaw04.ProgFresh'. -/
def progFreshUptoCard : Claim7 := { stood := { row := progFreshUptoRow, standIns := [], harness := (true, "7236a39b1eabb949023bf3950cd45d7949f3e8a0e4288c403ba7a4191ad4bfc4"), looks := true }, kinds := [], alts := [], laidByText := true, laidKinds := [.widerDeep], laidTests := true, laidLooks := .later }
def ProgFreshUptoCardSaid : Prop := Claim7.holds Tryz.pinned (.plain (OpenSpec.upto progFreshSpec)) progFreshUptoCard

/-- THE SECOND FORM's CARD OF 'riparianlaw04.ProgComponents'. -/
def progComponentsUptoCard : Claim7 := { stood := { row := progComponentsUptoRow, standIns := [], harness := (true, "7236a39b1eabb949023bf3950cd45d7949f3e8a0e4288c403ba7a4191ad4bfc4"), looks := true }, kinds := [], alts := [], laidByText := true, laidKinds := [.widerDeep], laidTests := true, laidLooks := .later }
def ProgComponentsUptoCardSaid : Prop := Claim7.holds Tryz.pinned (.plain (OpenSpec.upto progComponentsSpec)) progComponentsUptoCard

/-- THE SECOND FORM's CARD OF 'riparianlaw04.ProgCalls'. -/
def progCallsUptoCard : Claim7 := { stood := { row := progCallsUptoRow, standIns := [], harness := (true, "7236a39b1eabb949023bf3950cd45d7949f3e8a0e4288c403ba7a4191ad4bfc4"), looks := true }, kinds := [], alts := [], laidByText := true, laidKinds := [.widerDeep], laidTests := true, laidLooks := .later }
def ProgCallsUptoCardSaid : Prop := Claim7.holds Tryz.pinned (.plain (OpenSpec.upto progCallsSpec)) progCallsUptoCard

/-- THE SECOND FORM's CARD OF 'riparianlaw04.ProgTrims'. -/
def progTrimsUptoCard : Claim7 := { stood := { row := progTrimsUptoRow, standIns := [], harness := (true, "7236a39b1eabb949023bf3950cd45d7949f3e8a0e4288c403ba7a4191ad4bfc4"), looks := true }, kinds := [], alts := [], laidByText := true, laidKinds := [.widerDeep], laidTests := true, laidLooks := .later }
def ProgTrimsUptoCardSaid : Prop := Claim7.holds Tryz.pinned (.plain (OpenSpec.upto progTrimsSpec)) progTrimsUptoCard

/-- THE SECOND FORM's CARD OF 'riparianlaw04.ProgJoins'. -/
def progJoinsUptoCard : Claim7 := { stood := { row := progJoinsUptoRow, standIns := [], harness := (true, "7236a39b1eabb949023bf3950cd45d7949f3e8a0e4288c403ba7a4191ad4bfc4"), looks := true }, kinds := [], alts := [], laidByText := true, laidKinds := [.widerDeep], laidTests := true, laidLooks := .later }
def ProgJoinsUptoCardSaid : Prop := Claim7.holds Tryz.pinned (.plain (OpenSpec.upto progJoinsSpec)) progJoinsUptoCard

/-- THE SECOND FORM's CARD OF 'riparianlaw04.ProgForms'. -/
def progFormsUptoCard : Claim7 := { stood := { row := progFormsUptoRow, standIns := [], harness := (true, "7236a39b1eabb949023bf3950cd45d7949f3e8a0e4288c403ba7a4191ad4bfc4"), looks := true }, kinds := [], alts := [], laidByText := true, laidKinds := [.widerDeep], laidTests := true, laidLooks := .later }
def ProgFormsUptoCardSaid : Prop := Claim7.holds Tryz.pinned (.plain (OpenSpec.upto progFormsSpec)) progFormsUptoCard

/-- THE SECOND FORM's CARD OF 'riparianlaw04.ProgOrders'. -/
def progOrdersUptoCard : Claim7 := { stood := { row := progOrdersUptoRow, standIns := [], harness := (true, "7236a39b1eabb949023bf3950cd45d7949f3e8a0e4288c403ba7a4191ad4bfc4"), looks := true }, kinds := [], alts := [], laidByText := true, laidKinds := [.widerDeep], laidTests := true, laidLooks := .later }
def ProgOrdersUptoCardSaid : Prop := Claim7.holds Tryz.pinned (.plain (OpenSpec.upto progOrdersSpec)) progOrdersUptoCard

/-- THE SECOND FORM's CARD OF 'riparianlaw04.ProgJoined'. -/
def progJoinedUptoCard : Claim7 := { stood := { row := progJoinedUptoRow, standIns := [], harness := (true, "7236a39b1eabb949023bf3950cd45d7949f3e8a0e4288c403ba7a4191ad4bfc4"), looks := true }, kinds := [], alts := [], laidByText := true, laidKinds := [.widerDeep], laidTests := true, laidLooks := .later }
def ProgJoinedUptoCardSaid : Prop := Claim7.holds Tryz.pinned (.plain (OpenSpec.upto progJoinedSpec)) progJoinedUptoCard
end Rows
end Go.Proofs.YtndcajdameofjaaGreatDoor
