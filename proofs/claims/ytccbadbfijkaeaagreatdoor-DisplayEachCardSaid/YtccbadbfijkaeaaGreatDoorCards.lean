/-
  DERIVED. GIVEN WITH THE SEED: THE CARDS: each row of YtccbadbfijkaeaaGreatDoorRows.lean that lists a variable, with what it lists TIED to the program's text (the seventh form; the later family's looks); each row that meets fmt, with fmt's text TOLD by the authors' own Lean function (tested against real Go, not proved from fmt's source: count such statements apart). THE CARD IS WHAT COUNTS. Prove the row's statement (the work); the ties are given (YtccbadbfijkaeaaGreatDoorTie.lean); close each card by the builder's one call (the guide's Derived/Test/ToyasCard.lean, 'card_holds'). Laid BY PROGRAM, IN A SANDBOX (cutbox-door.mjs). By AI agents, Wed Nov 11 2026. No macro, syntax, notation, axiom, sorry.
-/
import Derived.Test.YtccbadbfijkaeaaGreatDoorRows
import GoSem.ClaimSeven
namespace Go.Proofs.YtccbadbfijkaeaaGreatDoor
namespace Rows

/-- THE TIED CARD OF 'librarylaw25.DisplayBrief'. -/
def displayBriefCard : Claim7 := { stood := { row := displayBriefRow, standIns := [], harness := (true, "4bc4f9495f3ca1596b68cfa46abd969153638194820e5896f61c94ac29c00aab"), looks := false }, kinds := [], alts := [], laidByText := true, laidKinds := [.data, .data, .data, .data, .pinned], laidTests := true, laidLooks := .later }
def DisplayBriefCardSaid : Prop := Claim7.holds Tryz.pinned (.plain (OpenSpec.ofChange displayBriefSpec)) displayBriefCard

/-- THE TIED CARD OF 'librarylaw25.DisplayFull'. -/
def displayFullCard : Claim7 := { stood := { row := displayFullRow, standIns := [], harness := (true, "4bc4f9495f3ca1596b68cfa46abd969153638194820e5896f61c94ac29c00aab"), looks := false }, kinds := [], alts := [], laidByText := true, laidKinds := [.data, .data, .data, .data, .pinned], laidTests := true, laidLooks := .later }
def DisplayFullCardSaid : Prop := Claim7.holds Tryz.pinned (.plain (OpenSpec.ofChange displayFullSpec)) displayFullCard

/-- THE TIED CARD OF 'librarylaw25.DisplayCopies'. -/
def displayCopiesCard : Claim7 := { stood := { row := displayCopiesRow, standIns := [], harness := (true, "4bc4f9495f3ca1596b68cfa46abd969153638194820e5896f61c94ac29c00aab"), looks := false }, kinds := [], alts := [], laidByText := true, laidKinds := [.data, .data, .data, .data, .pinned], laidTests := true, laidLooks := .later }
def DisplayCopiesCardSaid : Prop := Claim7.holds Tryz.pinned (.plain (OpenSpec.ofChange displayCopiesSpec)) displayCopiesCard

/-- THE TIED CARD OF 'librarylaw25.DisplayWraps'. -/
def displayWrapsCard : Claim7 := { stood := { row := displayWrapsRow, standIns := [], harness := (true, "4bc4f9495f3ca1596b68cfa46abd969153638194820e5896f61c94ac29c00aab"), looks := false }, kinds := [], alts := [], laidByText := true, laidKinds := [.data, .data, .data, .data, .pinned], laidTests := true, laidLooks := .later }
def DisplayWrapsCardSaid : Prop := Claim7.holds Tryz.pinned (.plain (OpenSpec.ofChange displayWrapsSpec)) displayWrapsCard

/-- THE TIED CARD OF 'librarylaw25.DisplayLines'. -/
def displayLinesCard : Claim7 := { stood := { row := displayLinesRow, standIns := [], harness := (true, "4bc4f9495f3ca1596b68cfa46abd969153638194820e5896f61c94ac29c00aab"), looks := false }, kinds := [], alts := [], laidByText := true, laidKinds := [.data, .data, .data, .data, .pinned], laidTests := true, laidLooks := .later }
def DisplayLinesCardSaid : Prop := Claim7.holds Tryz.pinned (.plain (OpenSpec.ofChange displayLinesSpec)) displayLinesCard

/-- THE TIED CARD OF 'librarylaw25.DisplayEach'. -/
def displayEachCard : Claim7 := { stood := { row := displayEachRow, standIns := [], harness := (true, "4bc4f9495f3ca1596b68cfa46abd969153638194820e5896f61c94ac29c00aab"), looks := false }, kinds := [], alts := [], laidByText := true, laidKinds := [.data, .data, .data, .data, .pinned], laidTests := true, laidLooks := .later }
def DisplayEachCardSaid : Prop := Claim7.holds Tryz.pinned (.plain (OpenSpec.ofChange displayEachSpec)) displayEachCard

/-- THE TIED CARD OF 'librarylaw25.DisplayBranches'. -/
def displayBranchesCard : Claim7 := { stood := { row := displayBranchesRow, standIns := [], harness := (true, "4bc4f9495f3ca1596b68cfa46abd969153638194820e5896f61c94ac29c00aab"), looks := false }, kinds := [], alts := [], laidByText := true, laidKinds := [.data, .data, .data, .data, .pinned], laidTests := true, laidLooks := .later }
def DisplayBranchesCardSaid : Prop := Claim7.holds Tryz.pinned (.plain (OpenSpec.ofChange displayBranchesSpec)) displayBranchesCard

/-- THE SECOND FORM's CARD OF 'librarylaw25.DisplayBrief'. -/
def displayBriefUptoCard : Claim7 := { stood := { row := displayBriefUptoRow, standIns := [], harness := (true, "4bc4f9495f3ca1596b68cfa46abd969153638194820e5896f61c94ac29c00aab"), looks := false }, kinds := [], alts := [], laidByText := true, laidKinds := [.data, .data, .data, .data, .pinned], laidTests := true, laidLooks := .later }
def DisplayBriefUptoCardSaid : Prop := Claim7.holds Tryz.pinned (.plain (OpenSpec.upto displayBriefSpec)) displayBriefUptoCard

/-- THE SECOND FORM's CARD OF 'librarylaw25.DisplayFull'. -/
def displayFullUptoCard : Claim7 := { stood := { row := displayFullUptoRow, standIns := [], harness := (true, "4bc4f9495f3ca1596b68cfa46abd969153638194820e5896f61c94ac29c00aab"), looks := false }, kinds := [], alts := [], laidByText := true, laidKinds := [.data, .data, .data, .data, .pinned], laidTests := true, laidLooks := .later }
def DisplayFullUptoCardSaid : Prop := Claim7.holds Tryz.pinned (.plain (OpenSpec.upto displayFullSpec)) displayFullUptoCard

/-- THE SECOND FORM's CARD OF 'librarylaw25.DisplayCopies'. -/
def displayCopiesUptoCard : Claim7 := { stood := { row := displayCopiesUptoRow, standIns := [], harness := (true, "4bc4f9495f3ca1596b68cfa46abd969153638194820e5896f61c94ac29c00aab"), looks := false }, kinds := [], alts := [], laidByText := true, laidKinds := [.data, .data, .data, .data, .pinned], laidTests := true, laidLooks := .later }
def DisplayCopiesUptoCardSaid : Prop := Claim7.holds Tryz.pinned (.plain (OpenSpec.upto displayCopiesSpec)) displayCopiesUptoCard

/-- THE SECOND FORM's CARD OF 'librarylaw25.DisplayWraps'. -/
def displayWrapsUptoCard : Claim7 := { stood := { row := displayWrapsUptoRow, standIns := [], harness := (true, "4bc4f9495f3ca1596b68cfa46abd969153638194820e5896f61c94ac29c00aab"), looks := false }, kinds := [], alts := [], laidByText := true, laidKinds := [.data, .data, .data, .data, .pinned], laidTests := true, laidLooks := .later }
def DisplayWrapsUptoCardSaid : Prop := Claim7.holds Tryz.pinned (.plain (OpenSpec.upto displayWrapsSpec)) displayWrapsUptoCard

/-- THE SECOND FORM's CARD OF 'librarylaw25.DisplayLines'. -/
def displayLinesUptoCard : Claim7 := { stood := { row := displayLinesUptoRow, standIns := [], harness := (true, "4bc4f9495f3ca1596b68cfa46abd969153638194820e5896f61c94ac29c00aab"), looks := false }, kinds := [], alts := [], laidByText := true, laidKinds := [.data, .data, .data, .data, .pinned], laidTests := true, laidLooks := .later }
def DisplayLinesUptoCardSaid : Prop := Claim7.holds Tryz.pinned (.plain (OpenSpec.upto displayLinesSpec)) displayLinesUptoCard

/-- THE SECOND FORM's CARD OF 'librarylaw25.DisplayEach'. -/
def displayEachUptoCard : Claim7 := { stood := { row := displayEachUptoRow, standIns := [], harness := (true, "4bc4f9495f3ca1596b68cfa46abd969153638194820e5896f61c94ac29c00aab"), looks := false }, kinds := [], alts := [], laidByText := true, laidKinds := [.data, .data, .data, .data, .pinned], laidTests := true, laidLooks := .later }
def DisplayEachUptoCardSaid : Prop := Claim7.holds Tryz.pinned (.plain (OpenSpec.upto displayEachSpec)) displayEachUptoCard

/-- THE SECOND FORM's CARD OF 'librarylaw25.DisplayBranches'. -/
def displayBranchesUptoCard : Claim7 := { stood := { row := displayBranchesUptoRow, standIns := [], harness := (true, "4bc4f9495f3ca1596b68cfa46abd969153638194820e5896f61c94ac29c00aab"), looks := false }, kinds := [], alts := [], laidByText := true, laidKinds := [.data, .data, .data, .data, .pinned], laidTests := true, laidLooks := .later }
def DisplayBranchesUptoCardSaid : Prop := Claim7.holds Tryz.pinned (.plain (OpenSpec.upto displayBranchesSpec)) displayBranchesUptoCard
end Rows
end Go.Proofs.YtccbadbfijkaeaaGreatDoor
