/-
  DERIVED. GIVEN WITH THE SEED: THE CARDS: each row of YtecjdjdfikcliaaGreatDoorRows.lean that lists a variable, with what it lists TIED to the program's text (the seventh form; the later family's looks); each row that meets fmt, with fmt's text TOLD by the authors' own Lean function (tested against real Go, not proved from fmt's source: count such statements apart). THE CARD IS WHAT COUNTS. Prove the row's statement (the work); the ties are given (YtecjdjdfikcliaaGreatDoorTie.lean); close each card by the builder's one call (the guide's Derived/Test/ToyasCard.lean, 'card_holds'). Laid BY PROGRAM, IN A SANDBOX (cutbox-door.mjs). By AI agents, Wed Nov 11 2026. No macro, syntax, notation, axiom, sorry.
-/
import Derived.Test.YtecjdjdfikcliaaGreatDoorRows
import GoSem.ClaimSeven
namespace Go.Proofs.YtecjdjdfikcliaaGreatDoor
namespace Rows

/-- THE TIED CARD OF 'resolventlaw07.ParseOps'. -/
def parseOpsCard : Claim7 := { stood := { row := parseOpsRow, standIns := [], harness := (true, "816c88e90fa7bef0ed61cd58ecfc00873482a1923906183dd17dfe8f025bdde7"), looks := true }, kinds := [], alts := [], laidByText := true, laidKinds := [.data, .data, .data, .sentinel, .sentinel, .listed, .data], laidTests := true, laidLooks := .later }
def ParseOpsCardSaid : Prop := Claim7.holds Tryz.pinned (.plain (OpenSpec.ofChange parseOpsSpec)) parseOpsCard

/-- THE TIED CARD OF 'resolventlaw07.ParseMore'. -/
def parseMoreCard : Claim7 := { stood := { row := parseMoreRow, standIns := [], harness := (true, "816c88e90fa7bef0ed61cd58ecfc00873482a1923906183dd17dfe8f025bdde7"), looks := true }, kinds := [], alts := [], laidByText := true, laidKinds := [.data, .data, .data, .sentinel, .sentinel, .listed, .data], laidTests := true, laidLooks := .later }
def ParseMoreCardSaid : Prop := Claim7.holds Tryz.pinned (.plain (OpenSpec.ofChange parseMoreSpec)) parseMoreCard

/-- THE SECOND FORM's CARD OF 'resolventlaw07.ParseOps'. -/
def parseOpsUptoCard : Claim7 := { stood := { row := parseOpsUptoRow, standIns := [], harness := (true, "816c88e90fa7bef0ed61cd58ecfc00873482a1923906183dd17dfe8f025bdde7"), looks := true }, kinds := [], alts := [], laidByText := true, laidKinds := [.data, .data, .data, .sentinel, .sentinel, .listed, .data], laidTests := true, laidLooks := .later }
def ParseOpsUptoCardSaid : Prop := Claim7.holds Tryz.pinned (.plain (OpenSpec.upto parseOpsSpec)) parseOpsUptoCard

/-- THE SECOND FORM's CARD OF 'resolventlaw07.ParseMore'. -/
def parseMoreUptoCard : Claim7 := { stood := { row := parseMoreUptoRow, standIns := [], harness := (true, "816c88e90fa7bef0ed61cd58ecfc00873482a1923906183dd17dfe8f025bdde7"), looks := true }, kinds := [], alts := [], laidByText := true, laidKinds := [.data, .data, .data, .sentinel, .sentinel, .listed, .data], laidTests := true, laidLooks := .later }
def ParseMoreUptoCardSaid : Prop := Claim7.holds Tryz.pinned (.plain (OpenSpec.upto parseMoreSpec)) parseMoreUptoCard
end Rows
end Go.Proofs.YtecjdjdfikcliaaGreatDoor
