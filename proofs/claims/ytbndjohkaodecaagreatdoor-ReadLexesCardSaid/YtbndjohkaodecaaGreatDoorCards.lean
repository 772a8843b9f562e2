/-
  DERIVED. GIVEN WITH THE SEED: THE CARDS: each row of YtbndjohkaodecaaGreatDoorRows.lean that lists a variable, with what it lists TIED to the program's text (the seventh form; the later family's looks); each row that meets fmt, with fmt's text TOLD by the authors' own Lean function (tested against real Go, not proved from fmt's source: count such statements apart). THE CARD IS WHAT COUNTS. Prove the row's statement (the work); the ties are given (YtbndjohkaodecaaGreatDoorTie.lean); close each card by the builder's one call (the guide's Derived/Test/ToyasCard.lean, 'card_holds'). Laid BY PROGRAM, IN A SANDBOX (cutbox-door.mjs). By AI agents, Wed Nov 11 2026. No macro, syntax, notation, axiom, sorry.
-/
import Derived.Test.YtbndjohkaodecaaGreatDoorRows
import GoSem.ClaimSeven
namespace Go.Proofs.YtbndjohkaodecaaGreatDoor
namespace Rows

/-- THE TIED CARD OF 'riparianlaw02.ReadLexes'. -/
def readLexesCard : Claim7 := { stood := { row := readLexesRow, standIns := [], harness := (true, "0487231308984262cb8012114dd09b33cfa2734f14c88897aaaf00f71f20233c"), looks := true }, kinds := [], alts := [], laidByText := true, laidKinds := [.data, .data, .data, .sentinel, .sentinel], laidTests := true, laidLooks := .later }
def ReadLexesCardSaid : Prop := Claim7.holds Tryz.pinned (.plain (OpenSpec.ofChange readLexesSpec)) readLexesCard

/-- THE TIED CARD OF 'riparianlaw02.ReadAgain'. -/
def readAgainCard : Claim7 := { stood := { row := readAgainRow, standIns := [], harness := (true, "0487231308984262cb8012114dd09b33cfa2734f14c88897aaaf00f71f20233c"), looks := true }, kinds := [], alts := [], laidByText := true, laidKinds := [.data, .data, .data, .sentinel, .sentinel], laidTests := true, laidLooks := .later }
def ReadAgainCardSaid : Prop := Claim7.holds Tryz.pinned (.plain (OpenSpec.ofChange readAgainSpec)) readAgainCard

/-- THE TIED CARD OF 'riparianlaw02.ReadBrackets'. -/
def readBracketsCard : Claim7 := { stood := { row := readBracketsRow, standIns := [], harness := (true, "0487231308984262cb8012114dd09b33cfa2734f14c88897aaaf00f71f20233c"), looks := true }, kinds := [], alts := [], laidByText := true, laidKinds := [.data, .data, .data, .sentinel, .sentinel], laidTests := true, laidLooks := .later }
def ReadBracketsCardSaid : Prop := Claim7.holds Tryz.pinned (.plain (OpenSpec.ofChange readBracketsSpec)) readBracketsCard

/-- THE TIED CARD OF 'riparianlaw02.ReadBlanks'. -/
def readBlanksCard : Claim7 := { stood := { row := readBlanksRow, standIns := [], harness := (true, "0487231308984262cb8012114dd09b33cfa2734f14c88897aaaf00f71f20233c"), looks := true }, kinds := [], alts := [], laidByText := true, laidKinds := [.data, .data, .data, .sentinel, .sentinel], laidTests := true, laidLooks := .later }
def ReadBlanksCardSaid : Prop := Claim7.holds Tryz.pinned (.plain (OpenSpec.ofChange readBlanksSpec)) readBlanksCard

/-- THE TIED CARD OF 'riparianlaw02.ReadRenamed'. -/
def readRenamedCard : Claim7 := { stood := { row := readRenamedRow, standIns := [], harness := (true, "0487231308984262cb8012114dd09b33cfa2734f14c88897aaaf00f71f20233c"), looks := true }, kinds := [], alts := [], laidByText := true, laidKinds := [.data, .data, .data, .sentinel, .sentinel], laidTests := true, laidLooks := .later }
def ReadRenamedCardSaid : Prop := Claim7.holds Tryz.pinned (.plain (OpenSpec.ofChange readRenamedSpec)) readRenamedCard

/-- THE TIED CARD OF 'riparianlaw02.ReadTooMuch'. -/
def readTooMuchCard : Claim7 := { stood := { row := readTooMuchRow, standIns := [], harness := (true, "0487231308984262cb8012114dd09b33cfa2734f14c88897aaaf00f71f20233c"), looks := true }, kinds := [], alts := [], laidByText := true, laidKinds := [.data, .data, .data, .sentinel, .sentinel], laidTests := true, laidLooks := .later }
def ReadTooMuchCardSaid : Prop := Claim7.holds Tryz.pinned (.plain (OpenSpec.ofChange readTooMuchSpec)) readTooMuchCard

/-- THE TIED CARD OF 'riparianlaw02.ReadOperators'. -/
def readOperatorsCard : Claim7 := { stood := { row := readOperatorsRow, standIns := [], harness := (true, "0487231308984262cb8012114dd09b33cfa2734f14c88897aaaf00f71f20233c"), looks := true }, kinds := [], alts := [], laidByText := true, laidKinds := [.data, .data, .data, .sentinel, .sentinel], laidTests := true, laidLooks := .later }
def ReadOperatorsCardSaid : Prop := Claim7.holds Tryz.pinned (.plain (OpenSpec.ofChange readOperatorsSpec)) readOperatorsCard

/-- THE TIED CARD OF 'riparianlaw02.ReadPlain'. -/
def readPlainCard : Claim7 := { stood := { row := readPlainRow, standIns := [], harness := (true, "0487231308984262cb8012114dd09b33cfa2734f14c88897aaaf00f71f20233c"), looks := true }, kinds := [], alts := [], laidByText := true, laidKinds := [.data, .data, .data, .sentinel, .sentinel], laidTests := true, laidLooks := .later }
def ReadPlainCardSaid : Prop := Claim7.holds Tryz.pinned (.plain (OpenSpec.ofChange readPlainSpec)) readPlainCard

/-- THE TIED CARD OF 'riparianlaw02.ReadTerms'. -/
def readTermsCard : Claim7 := { stood := { row := readTermsRow, standIns := [], harness := (true, "0487231308984262cb8012114dd09b33cfa2734f14c88897aaaf00f71f20233c"), looks := true }, kinds := [], alts := [], laidByText := true, laidKinds := [.data, .data, .data, .sentinel, .sentinel], laidTests := true, laidLooks := .later }
def ReadTermsCardSaid : Prop := Claim7.holds Tryz.pinned (.plain (OpenSpec.ofChange readTermsSpec)) readTermsCard

/-- THE TIED CARD OF 'riparianlaw02.ReadSpaced'. -/
def readSpacedCard : Claim7 := { stood := { row := readSpacedRow, standIns := [], harness := (true, "0487231308984262cb8012114dd09b33cfa2734f14c88897aaaf00f71f20233c"), looks := true }, kinds := [], alts := [], laidByText := true, laidKinds := [.data, .data, .data, .sentinel, .sentinel], laidTests := true, laidLooks := .later }
def ReadSpacedCardSaid : Prop := Claim7.holds Tryz.pinned (.plain (OpenSpec.ofChange readSpacedSpec)) readSpacedCard

/-- THE TIED CARD OF 'riparianlaw02.ReadPieces'. -/
def readPiecesCard : Claim7 := { stood := { row := readPiecesRow, standIns := [], harness := (true, "0487231308984262cb8012114dd09b33cfa2734f14c88897aaaf00f71f20233c"), looks := true }, kinds := [], alts := [], laidByText := true, laidKinds := [.data, .data, .data, .sentinel, .sentinel], laidTests := true, laidLooks := .later }
def ReadPiecesCardSaid : Prop := Claim7.holds Tryz.pinned (.plain (OpenSpec.ofChange readPiecesSpec)) readPiecesCard

/-- THE TIED CARD OF 'riparianlaw02.ReadBack'. -/
def readBackCard : Claim7 := { stood := { row := readBackRow, standIns := [], harness := (true, "0487231308984262cb8012114dd09b33cfa2734f14c88897aaaf00f71f20233c"), looks := true }, kinds := [], alts := [], laidByText := true, laidKinds := [.data, .data, .data, .sentinel, .sentinel], laidTests := true, laidLooks := .later }
def ReadBackCardSaid : Prop := Claim7.holds Tryz.pinned (.plain (OpenSpec.ofChange readBackSpec)) readBackCard

/-- THE TIED CARD OF 'riparianlaw02.ReadNames'. -/
def readNamesCard : Claim7 := { stood := { row := readNamesRow, standIns := [], harness := (true, "0487231308984262cb8012114dd09b33cfa2734f14c88897aaaf00f71f20233c"), looks := true }, kinds := [], alts := [], laidByText := true, laidKinds := [.data, .data, .data, .sentinel, .sentinel], laidTests := true, laidLooks := .later }
def ReadNamesCardSaid : Prop := Claim7.holds Tryz.pinned (.plain (OpenSpec.ofChange readNamesSpec)) readNamesCard

/-- THE TIED CARD OF 'riparianlaw02.ReadTexts'. -/
def readTextsCard : Claim7 := { stood := { row := readTextsRow, standIns := [], harness := (true, "0487231308984262cb8012114dd09b33cfa2734f14c88897aaaf00f71f20233c"), looks := true }, kinds := [], alts := [], laidByText := true, laidKinds := [.data, .data, .data, .sentinel, .sentinel], laidTests := true, laidLooks := .later }
def ReadTextsCardSaid : Prop := Claim7.holds Tryz.pinned (.plain (OpenSpec.ofChange readTextsSpec)) readTextsCard

/-- THE SECOND FORM's CARD OF 'riparianlaw02.ReadLexes'. -/
def readLexesUptoCard : Claim7 := { stood := { row := readLexesUptoRow, standIns := [], harness := (true, "0487231308984262cb8012114dd09b33cfa2734f14c88897aaaf00f71f20233c"), looks := true }, kinds := [], alts := [], laidByText := true, laidKinds := [.data, .data, .data, .sentinel, .sentinel], laidTests := true, laidLooks := .later }
def ReadLexesUptoCardSaid : Prop := Claim7.holds Tryz.pinned (.plain (OpenSpec.upto readLexesSpec)) readLexesUptoCard

/-- THE SECOND FORM's CARD OF 'riparianlaw02.ReadAgain'. -/
def readAgainUptoCard : Claim7 := { stood := { row := readAgainUptoRow, standIns := [], harness := (true, "0487231308984262cb8012114dd09b33cfa2734f14c88897aaaf00f71f20233c"), looks := true }, kinds := [], alts := [], laidByText := true, laidKinds := [.data, .data, .data, .sentinel, .sentinel], laidTests := true, laidLooks := .later }
def ReadAgainUptoCardSaid : Prop := Claim7.holds Tryz.pinned (.plain (OpenSpec.upto readAgainSpec)) readAgainUptoCard

/-- THE SECOND FORM's CARD OF 'riparianlaw02.ReadBrackets'. -/
def readBracketsUptoCard : Claim7 := { stood := { row := readBracketsUptoRow, standIns := [], harness := (true, "0487231308984262cb8012114dd09b33cfa2734f14c88897aaaf00f71f20233c"), looks := true }, kinds := [], alts := [], laidByText := true, laidKinds := [.data, .data, .data, .sentinel, .sentinel], laidTests := true, laidLooks := .later }
def ReadBracketsUptoCardSaid : Prop := Claim7.holds Tryz.pinned (.plain (OpenSpec.upto readBracketsSpec)) readBracketsUptoCard

/-- THE SECOND FORM's CARD OF 'riparianlaw02.ReadBlanks'. -/
def readBlanksUptoCard : Claim7 := { stood := { row := readBlanksUptoRow, standIns := [], harness := (true, "0487231308984262cb8012114dd09b33cfa2734f14c88897aaaf00f71f20233c"), looks := true }, kinds := [], alts := [], laidByText := true, laidKinds := [.data, .data, .data, .sentinel, .sentinel], laidTests := true, laidLooks := .later }
def ReadBlanksUptoCardSaid : Prop := Claim7.holds Tryz.pinned (.plain (OpenSpec.upto readBlanksSpec)) readBlanksUptoCard

/-- THE SECOND FORM's CARD OF 'riparianlaw02.ReadRenamed'. -/
def readRenamedUptoCard : Claim7 := { stood := { row := readRenamedUptoRow, standIns := [], harness := (true, "0487231308984262cb8012114dd09b33cfa2734f14c88897aaaf00f71f20233c"), looks := true }, kinds := [], alts := [], laidByText := true, laidKinds := [.data, .data, .data, .sentinel, .sentinel], laidTests := true, laidLooks := .later }
def ReadRenamedUptoCardSaid : Prop := Claim7.holds Tryz.pinned (.plain (OpenSpec.upto readRenamedSpec)) readRenamedUptoCard

/-- THE SECOND FORM's CARD OF 'riparianlaw02.ReadTooMuch'. -/
def readTooMuchUptoCard : Claim7 := { stood := { row := readTooMuchUptoRow, standIns := [], harness := (true, "0487231308984262cb8012114dd09b33cfa2734f14c88897aaaf00f71f20233c"), looks := true }, kinds := [], alts := [], laidByText := true, laidKinds := [.data, .data, .data, .sentinel, .sentinel], laidTests := true, laidLooks := .later }
def ReadTooMuchUptoCardSaid : Prop := Claim7.holds Tryz.pinned (.plain (OpenSpec.upto readTooMuchSpec)) readTooMuchUptoCard

/-- THE SECOND FORM's CARD OF 'riparianlaw02.ReadOperators'. -/
def readOperatorsUptoCard : Claim7 := { stood := { row := readOperatorsUptoRow, standIns := [], harness := (true, "0487231308984262cb8012114dd09b33cfa2734f14c88897aaaf00f71f20233c"), looks := true }, kinds := [], alts := [], laidByText := true, laidKinds := [.data, .data, .data, .sentinel, .sentinel], laidTests := true, laidLooks := .later }
def ReadOperatorsUptoCardSaid : Prop := Claim7.holds Tryz.pinned (.plain (OpenSpec.upto readOperatorsSpec)) readOperatorsUptoCard

/-- THE SECOND FORM's CARD OF 'riparianlaw02.ReadPlain'. -/
def readPlainUptoCard : Claim7 := { stood := { row := readPlainUptoRow, standIns := [], harness := (true, "0487231308984262cb8012114dd09b33cfa2734f14c88897aaaf00f71f20233c"), looks := true }, kinds := [], alts := [], laidByText := true, laidKinds := [.data, .data, .data, .sentinel, .sentinel], laidTests := true, laidLooks := .later }
def ReadPlainUptoCardSaid : Prop := Claim7.holds Tryz.pinned (.plain (OpenSpec.upto readPlainSpec)) readPlainUptoCard

/-- THE SECOND FORM's CARD OF 'riparianlaw02.ReadTerms'. -/
def readTermsUptoCard : Claim7 := { stood := { row := readTermsUptoRow, standIns := [], harness := (true, "0487231308984262cb8012114dd09b33cfa2734f14c88897aaaf00f71f20233c"), looks := true }, kinds := [], alts := [], laidByText := true, laidKinds := [.data, .data, .data, .sentinel, .sentinel], laidTests := true, laidLooks := .later }
def ReadTermsUptoCardSaid : Prop := Claim7.holds Tryz.pinned (.plain (OpenSpec.upto readTermsSpec)) readTermsUptoCard

/-- THE SECOND FORM's CARD OF 'riparianlaw02.ReadSpaced'. -/
def readSpacedUptoCard : Claim7 := { stood := { row := readSpacedUptoRow, standIns := [], harness := (true, "0487231308984262cb8012114dd09b33cfa2734f14c88897aaaf00f71f20233c"), looks := true }, kinds := [], alts := [], laidByText := true, laidKinds := [.data, .data, .data, .sentinel, .sentinel], laidTests := true, laidLooks := .later }
def ReadSpacedUptoCardSaid : Prop := Claim7.holds Tryz.pinned (.plain (OpenSpec.upto readSpacedSpec)) readSpacedUptoCard

/-- THE SECOND FORM's CARD OF 'riparianlaw02.ReadPieces'. -/
def readPiecesUptoCard : Claim7 := { stood := { row := readPiecesUptoRow, standIns := [], harness := (true, "0487231308984262cb8012114dd09b33cfa2734f14c88897aaaf00f71f20233c"), looks := true }, kinds := [], alts := [], laidByText := true, laidKinds := [.data, .data, .data, .sentinel, .sentinel], laidTests := true, laidLooks := .later }
def ReadPiecesUptoCardSaid : Prop := Claim7.holds Tryz.pinned (.plain (OpenSpec.upto readPiecesSpec)) readPiecesUptoCard

/-- THE SECOND FORM's CARD OF 'riparianlaw02.ReadBack'. -/
def readBackUptoCard : Claim7 := { stood := { row := readBackUptoRow, standIns := [], harness := (true, "0487231308984262cb8012114dd09b33cfa2734f14c88897aaaf00f71f20233c"), looks := true }, kinds := [], alts := [], laidByText := true, laidKinds := [.data, .data, .data, .sentinel, .sentinel], laidTests := true, laidLooks := .later }
def ReadBackUptoCardSaid : Prop := Claim7.holds Tryz.pinned (.plain (OpenSpec.upto readBackSpec)) readBackUptoCard

/-- THE SECOND FORM's CARD OF 'riparianlaw02.ReadNames'. -/
def readNamesUptoCard : Claim7 := { stood := { row := readNamesUptoRow, standIns := [], harness := (true, "0487231308984262cb8012114dd09b33cfa2734f14c88897aaaf00f71f20233c"), looks := true }, kinds := [], alts := [], laidByText := true, laidKinds := [.data, .data, .data, .sentinel, .sentinel], laidTests := true, laidLooks := .later }
def ReadNamesUptoCardSaid : Prop := Claim7.holds Tryz.pinned (.plain (OpenSpec.upto readNamesSpec)) readNamesUptoCard

/-- THE SECOND FORM's CARD OF 'riparianlaw02.ReadTexts'. -/
def readTextsUptoCard : Claim7 := { stood := { row := readTextsUptoRow, standIns := [], harness := (true, "0487231308984262cb8012114dd09b33cfa2734f14c88897aaaf00f71f20233c"), looks := true }, kinds := [], alts := [], laidByText := true, laidKinds := [.data, .data, .data, .sentinel, .sentinel], laidTests := true, laidLooks := .later }
def ReadTextsUptoCardSaid : Prop := Claim7.holds Tryz.pinned (.plain (OpenSpec.upto readTextsSpec)) readTextsUptoCard
end Rows
end Go.Proofs.YtbndjohkaodecaaGreatDoor
