/-
  DERIVED. GIVEN WITH THE SEED: THE CARDS: each row of YthnjdfblappkfaaDoorRows.lean that lists a variable, with what it lists TIED to the program's text (the seventh form; the later family's looks); each row that meets fmt, with fmt's text TOLD by the authors' own Lean function (tested against real Go, not proved from fmt's source: count such statements apart). THE CARD IS WHAT COUNTS. Prove the row's statement (the work); the ties are given (YthnjdfblappkfaaDoorTie.lean); close each card by the builder's one call (the guide's Derived/Test/ToyasCard.lean, 'card_holds'). Laid BY PROGRAM, IN A SANDBOX (cutbox-door.mjs). By AI agents, Wed Nov 11 2026. No macro, syntax, notation, axiom, sorry.
-/
import Derived.Test.YthnjdfblappkfaaDoorRows
import GoSem.ClaimSeven
namespace Go.Proofs.YthnjdfblappkfaaDoor
namespace Rows

/-- THE TIED CARD OF 'resolventlaw08.WriteTells'. -/
def writeTellsCard : Claim7 := { stood := { row := writeTellsRow, standIns := [], harness := (true, "85e050d40239c38b7e9cc6fc5da1a01238f5fd38d73fae6cf4096b0d68772169"), looks := true }, kinds := [], alts := [], laidByText := true, laidKinds := [.data, .data, .data, .data, .pinned], laidTests := true, laidLooks := .later }
def WriteTellsCardSaid : Prop := Claim7.holds Tryd.pinned (.plain (OpenSpec.ofChange writeTellsSpec)) writeTellsCard

/-- THE TIED CARD OF 'resolventlaw08.WriteParts'. -/
def writePartsCard : Claim7 := { stood := { row := writePartsRow, standIns := [], harness := (true, "85e050d40239c38b7e9cc6fc5da1a01238f5fd38d73fae6cf4096b0d68772169"), looks := true }, kinds := [], alts := [], laidByText := true, laidKinds := [.data, .data, .data, .data, .pinned], laidTests := true, laidLooks := .later }
def WritePartsCardSaid : Prop := Claim7.holds Tryd.pinned (.plain (OpenSpec.ofChange writePartsSpec)) writePartsCard

/-- THE TIED CARD OF 'resolventlaw08.WriteClauses'. -/
def writeClausesCard : Claim7 := { stood := { row := writeClausesRow, standIns := [], harness := (true, "85e050d40239c38b7e9cc6fc5da1a01238f5fd38d73fae6cf4096b0d68772169"), looks := true }, kinds := [], alts := [], laidByText := true, laidKinds := [.data, .data, .data, .data, .pinned], laidTests := true, laidLooks := .later }
def WriteClausesCardSaid : Prop := Claim7.holds Tryd.pinned (.plain (OpenSpec.ofChange writeClausesSpec)) writeClausesCard

/-- THE TIED CARD OF 'resolventlaw08.WriteApart'. -/
def writeApartCard : Claim7 := { stood := { row := writeApartRow, standIns := [], harness := (true, "85e050d40239c38b7e9cc6fc5da1a01238f5fd38d73fae6cf4096b0d68772169"), looks := true }, kinds := [], alts := [], laidByText := true, laidKinds := [.data, .data, .data, .data, .pinned], laidTests := true, laidLooks := .later }
def WriteApartCardSaid : Prop := Claim7.holds Tryd.pinned (.plain (OpenSpec.ofChange writeApartSpec)) writeApartCard

/-- THE TIED CARD OF 'resolventlaw06.LexTells'. -/
def lexTellsCard : Claim7 := { stood := { row := lexTellsRow, standIns := [], harness := (true, "85e050d40239c38b7e9cc6fc5da1a01238f5fd38d73fae6cf4096b0d68772169"), looks := true }, kinds := [], alts := [], laidByText := true, laidKinds := [.data, .data, .data, .sentinel, .sentinel], laidTests := true, laidLooks := .later }
def LexTellsCardSaid : Prop := Claim7.holds Tryd.pinned (.plain (OpenSpec.ofChange lexTellsSpec)) lexTellsCard

/-- THE TIED CARD OF 'resolventlaw06.LexBetween'. -/
def lexBetweenCard : Claim7 := { stood := { row := lexBetweenRow, standIns := [], harness := (true, "85e050d40239c38b7e9cc6fc5da1a01238f5fd38d73fae6cf4096b0d68772169"), looks := true }, kinds := [], alts := [], laidByText := true, laidKinds := [.data, .data, .data, .sentinel, .sentinel], laidTests := true, laidLooks := .later }
def LexBetweenCardSaid : Prop := Claim7.holds Tryd.pinned (.plain (OpenSpec.ofChange lexBetweenSpec)) lexBetweenCard

/-- THE TIED CARD OF 'resolventlaw06.LexBlanks'. -/
def lexBlanksCard : Claim7 := { stood := { row := lexBlanksRow, standIns := [], harness := (true, "85e050d40239c38b7e9cc6fc5da1a01238f5fd38d73fae6cf4096b0d68772169"), looks := true }, kinds := [], alts := [], laidByText := true, laidKinds := [.data, .data, .data, .sentinel, .sentinel], laidTests := true, laidLooks := .later }
def LexBlanksCardSaid : Prop := Claim7.holds Tryd.pinned (.plain (OpenSpec.ofChange lexBlanksSpec)) lexBlanksCard

/-- THE TIED CARD OF 'resolventlaw06.LexWords'. -/
def lexWordsCard : Claim7 := { stood := { row := lexWordsRow, standIns := [], harness := (true, "85e050d40239c38b7e9cc6fc5da1a01238f5fd38d73fae6cf4096b0d68772169"), looks := true }, kinds := [], alts := [], laidByText := true, laidKinds := [.data, .data, .data, .sentinel, .sentinel], laidTests := true, laidLooks := .later }
def LexWordsCardSaid : Prop := Claim7.holds Tryd.pinned (.plain (OpenSpec.ofChange lexWordsSpec)) lexWordsCard

/-- THE TIED CARD OF 'resolventlaw07.ParseRound'. -/
def parseRoundCard : Claim7 := { stood := { row := parseRoundRow, standIns := [], harness := (true, "85e050d40239c38b7e9cc6fc5da1a01238f5fd38d73fae6cf4096b0d68772169"), looks := true }, kinds := [], alts := [], laidByText := true, laidKinds := [.data, .data, .data, .sentinel, .sentinel, .listed, .data], laidTests := true, laidLooks := .later }
def ParseRoundCardSaid : Prop := Claim7.holds Tryd.pinned (.plain (OpenSpec.ofChange parseRoundSpec)) parseRoundCard

/-- THE TIED CARD OF 'resolventlaw07.ParseSides'. -/
def parseSidesCard : Claim7 := { stood := { row := parseSidesRow, standIns := [], harness := (true, "85e050d40239c38b7e9cc6fc5da1a01238f5fd38d73fae6cf4096b0d68772169"), looks := true }, kinds := [], alts := [], laidByText := true, laidKinds := [.data, .data, .data, .sentinel, .sentinel, .listed, .data], laidTests := true, laidLooks := .later }
def ParseSidesCardSaid : Prop := Claim7.holds Tryd.pinned (.plain (OpenSpec.ofChange parseSidesSpec)) parseSidesCard

/-- THE SECOND FORM's CARD OF 'resolventlaw08.WriteTells'. -/
def writeTellsUptoCard : Claim7 := { stood := { row := writeTellsUptoRow, standIns := [], harness := (true, "85e050d40239c38b7e9cc6fc5da1a01238f5fd38d73fae6cf4096b0d68772169"), looks := true }, kinds := [], alts := [], laidByText := true, laidKinds := [.data, .data, .data, .data, .pinned], laidTests := true, laidLooks := .later }
def WriteTellsUptoCardSaid : Prop := Claim7.holds Tryd.pinned (.plain (OpenSpec.upto writeTellsSpec)) writeTellsUptoCard

/-- THE SECOND FORM's CARD OF 'resolventlaw08.WriteParts'. -/
def writePartsUptoCard : Claim7 := { stood := { row := writePartsUptoRow, standIns := [], harness := (true, "85e050d40239c38b7e9cc6fc5da1a01238f5fd38d73fae6cf4096b0d68772169"), looks := true }, kinds := [], alts := [], laidByText := true, laidKinds := [.data, .data, .data, .data, .pinned], laidTests := true, laidLooks := .later }
def WritePartsUptoCardSaid : Prop := Claim7.holds Tryd.pinned (.plain (OpenSpec.upto writePartsSpec)) writePartsUptoCard

/-- THE SECOND FORM's CARD OF 'resolventlaw08.WriteClauses'. -/
def writeClausesUptoCard : Claim7 := { stood := { row := writeClausesUptoRow, standIns := [], harness := (true, "85e050d40239c38b7e9cc6fc5da1a01238f5fd38d73fae6cf4096b0d68772169"), looks := true }, kinds := [], alts := [], laidByText := true, laidKinds := [.data, .data, .data, .data, .pinned], laidTests := true, laidLooks := .later }
def WriteClausesUptoCardSaid : Prop := Claim7.holds Tryd.pinned (.plain (OpenSpec.upto writeClausesSpec)) writeClausesUptoCard

/-- THE SECOND FORM's CARD OF 'resolventlaw08.WriteApart'. -/
def writeApartUptoCard : Claim7 := { stood := { row := writeApartUptoRow, standIns := [], harness := (true, "85e050d40239c38b7e9cc6fc5da1a01238f5fd38d73fae6cf4096b0d68772169"), looks := true }, kinds := [], alts := [], laidByText := true, laidKinds := [.data, .data, .data, .data, .pinned], laidTests := true, laidLooks := .later }
def WriteApartUptoCardSaid : Prop := Claim7.holds Tryd.pinned (.plain (OpenSpec.upto writeApartSpec)) writeApartUptoCard

/-- THE SECOND FORM's CARD OF 'resolventlaw06.LexTells'. -/
def lexTellsUptoCard : Claim7 := { stood := { row := lexTellsUptoRow, standIns := [], harness := (true, "85e050d40239c38b7e9cc6fc5da1a01238f5fd38d73fae6cf4096b0d68772169"), looks := true }, kinds := [], alts := [], laidByText := true, laidKinds := [.data, .data, .data, .sentinel, .sentinel], laidTests := true, laidLooks := .later }
def LexTellsUptoCardSaid : Prop := Claim7.holds Tryd.pinned (.plain (OpenSpec.upto lexTellsSpec)) lexTellsUptoCard

/-- THE SECOND FORM's CARD OF 'resolventlaw06.LexBetween'. -/
def lexBetweenUptoCard : Claim7 := { stood := { row := lexBetweenUptoRow, standIns := [], harness := (true, "85e050d40239c38b7e9cc6fc5da1a01238f5fd38d73fae6cf4096b0d68772169"), looks := true }, kinds := [], alts := [], laidByText := true, laidKinds := [.data, .data, .data, .sentinel, .sentinel], laidTests := true, laidLooks := .later }
def LexBetweenUptoCardSaid : Prop := Claim7.holds Tryd.pinned (.plain (OpenSpec.upto lexBetweenSpec)) lexBetweenUptoCard

/-- THE SECOND FORM's CARD OF 'resolventlaw06.LexBlanks'. -/
def lexBlanksUptoCard : Claim7 := { stood := { row := lexBlanksUptoRow, standIns := [], harness := (true, "85e050d40239c38b7e9cc6fc5da1a01238f5fd38d73fae6cf4096b0d68772169"), looks := true }, kinds := [], alts := [], laidByText := true, laidKinds := [.data, .data, .data, .sentinel, .sentinel], laidTests := true, laidLooks := .later }
def LexBlanksUptoCardSaid : Prop := Claim7.holds Tryd.pinned (.plain (OpenSpec.upto lexBlanksSpec)) lexBlanksUptoCard

/-- THE SECOND FORM's CARD OF 'resolventlaw06.LexWords'. -/
def lexWordsUptoCard : Claim7 := { stood := { row := lexWordsUptoRow, standIns := [], harness := (true, "85e050d40239c38b7e9cc6fc5da1a01238f5fd38d73fae6cf4096b0d68772169"), looks := true }, kinds := [], alts := [], laidByText := true, laidKinds := [.data, .data, .data, .sentinel, .sentinel], laidTests := true, laidLooks := .later }
def LexWordsUptoCardSaid : Prop := Claim7.holds Tryd.pinned (.plain (OpenSpec.upto lexWordsSpec)) lexWordsUptoCard

/-- THE SECOND FORM's CARD OF 'resolventlaw07.ParseRound'. -/
def parseRoundUptoCard : Claim7 := { stood := { row := parseRoundUptoRow, standIns := [], harness := (true, "85e050d40239c38b7e9cc6fc5da1a01238f5fd38d73fae6cf4096b0d68772169"), looks := true }, kinds := [], alts := [], laidByText := true, laidKinds := [.data, .data, .data, .sentinel, .sentinel, .listed, .data], laidTests := true, laidLooks := .later }
def ParseRoundUptoCardSaid : Prop := Claim7.holds Tryd.pinned (.plain (OpenSpec.upto parseRoundSpec)) parseRoundUptoCard

/-- THE SECOND FORM's CARD OF 'resolventlaw07.ParseSides'. -/
def parseSidesUptoCard : Claim7 := { stood := { row := parseSidesUptoRow, standIns := [], harness := (true, "85e050d40239c38b7e9cc6fc5da1a01238f5fd38d73fae6cf4096b0d68772169"), looks := true }, kinds := [], alts := [], laidByText := true, laidKinds := [.data, .data, .data, .sentinel, .sentinel, .listed, .data], laidTests := true, laidLooks := .later }
def ParseSidesUptoCardSaid : Prop := Claim7.holds Tryd.pinned (.plain (OpenSpec.upto parseSidesSpec)) parseSidesUptoCard
end Rows
end Go.Proofs.YthnjdfblappkfaaDoor
