/-
  DERIVED. GIVEN WITH THE SEED: THE CARDS: each row of YtlakomilichhnaaGreatDoorRows.lean that lists a variable, with what it lists TIED to the program's text (the seventh form; the later family's looks); each row that meets fmt, with fmt's text TOLD by the authors' own Lean function (tested against real Go, not proved from fmt's source: count such statements apart). THE CARD IS WHAT COUNTS. Prove the row's statement (the work); the ties are given (YtlakomilichhnaaGreatDoorTie.lean); close each card by the builder's one call (the guide's Derived/Test/ToyasCard.lean, 'card_holds'). Laid BY PROGRAM, IN A SANDBOX (cutbox-door.mjs). By AI agents, Wed Nov 11 2026. No macro, syntax, notation, axiom, sorry.
-/
import Derived.Test.YtlakomilichhnaaGreatDoorRows
import GoSem.ClaimSeven
namespace Go.Proofs.YtlakomilichhnaaGreatDoor
namespace Rows

/-- THE TIED CARD OF 'librarylaw22.SearchEval'. -/
def searchEvalCard : Claim7 := { stood := { row := searchEvalRow, standIns := [], harness := (true, "aa62f3c90adefaf19a26c8dce76b6a144ecabf8b2881a40070b808f4ff21e5df"), looks := true }, kinds := [], alts := [], laidByText := true, laidKinds := [.data, .data, .data, .data, .sentinel, .sentinel, .pinned], laidTests := true, laidLooks := .later }
def SearchEvalCardSaid : Prop := Claim7.holds Tryz.pinned (.plain (OpenSpec.ofChange searchEvalSpec)) searchEvalCard

/-- THE TIED CARD OF 'librarylaw22.SearchOrder'. -/
def searchOrderCard : Claim7 := { stood := { row := searchOrderRow, standIns := [], harness := (true, "aa62f3c90adefaf19a26c8dce76b6a144ecabf8b2881a40070b808f4ff21e5df"), looks := true }, kinds := [], alts := [], laidByText := true, laidKinds := [.data, .data, .data, .data, .sentinel, .sentinel, .pinned], laidTests := true, laidLooks := .later }
def SearchOrderCardSaid : Prop := Claim7.holds Tryz.pinned (.plain (OpenSpec.ofChange searchOrderSpec)) searchOrderCard

/-- THE TIED CARD OF 'librarylaw22.SearchPage'. -/
def searchPageCard : Claim7 := { stood := { row := searchPageRow, standIns := [], harness := (true, "aa62f3c90adefaf19a26c8dce76b6a144ecabf8b2881a40070b808f4ff21e5df"), looks := true }, kinds := [], alts := [], laidByText := true, laidKinds := [.data, .data, .data, .data, .sentinel, .sentinel, .pinned], laidTests := true, laidLooks := .later }
def SearchPageCardSaid : Prop := Claim7.holds Tryz.pinned (.plain (OpenSpec.ofChange searchPageSpec)) searchPageCard

/-- THE TIED CARD OF 'librarylaw22.SearchRun'. -/
def searchRunCard : Claim7 := { stood := { row := searchRunRow, standIns := [], harness := (true, "aa62f3c90adefaf19a26c8dce76b6a144ecabf8b2881a40070b808f4ff21e5df"), looks := true }, kinds := [], alts := [], laidByText := true, laidKinds := [.data, .data, .data, .data, .sentinel, .sentinel, .pinned], laidTests := true, laidLooks := .later }
def SearchRunCardSaid : Prop := Claim7.holds Tryz.pinned (.plain (OpenSpec.ofChange searchRunSpec)) searchRunCard

/-- THE TIED CARD OF 'librarylaw22.SearchPages'. -/
def searchPagesCard : Claim7 := { stood := { row := searchPagesRow, standIns := [], harness := (true, "aa62f3c90adefaf19a26c8dce76b6a144ecabf8b2881a40070b808f4ff21e5df"), looks := true }, kinds := [], alts := [], laidByText := true, laidKinds := [.data, .data, .data, .data, .sentinel, .sentinel, .pinned], laidTests := true, laidLooks := .later }
def SearchPagesCardSaid : Prop := Claim7.holds Tryz.pinned (.plain (OpenSpec.ofChange searchPagesSpec)) searchPagesCard

/-- THE TIED CARD OF 'librarylaw22.SearchMatch'. -/
def searchMatchCard : Claim7 := { stood := { row := searchMatchRow, standIns := [], harness := (true, "aa62f3c90adefaf19a26c8dce76b6a144ecabf8b2881a40070b808f4ff21e5df"), looks := true }, kinds := [], alts := [], laidByText := true, laidKinds := [.data, .data, .data, .data, .sentinel, .sentinel, .pinned], laidTests := true, laidLooks := .later }
def SearchMatchCardSaid : Prop := Claim7.holds Tryz.pinned (.plain (OpenSpec.ofChange searchMatchSpec)) searchMatchCard

/-- THE TIED CARD OF 'librarylaw22.SearchExact'. -/
def searchExactCard : Claim7 := { stood := { row := searchExactRow, standIns := [], harness := (true, "aa62f3c90adefaf19a26c8dce76b6a144ecabf8b2881a40070b808f4ff21e5df"), looks := true }, kinds := [], alts := [], laidByText := true, laidKinds := [.data, .data, .data, .data, .sentinel, .sentinel, .pinned], laidTests := true, laidLooks := .later }
def SearchExactCardSaid : Prop := Claim7.holds Tryz.pinned (.plain (OpenSpec.ofChange searchExactSpec)) searchExactCard

/-- THE SECOND FORM's CARD OF 'librarylaw22.SearchEval'. -/
def searchEvalUptoCard : Claim7 := { stood := { row := searchEvalUptoRow, standIns := [], harness := (true, "aa62f3c90adefaf19a26c8dce76b6a144ecabf8b2881a40070b808f4ff21e5df"), looks := true }, kinds := [], alts := [], laidByText := true, laidKinds := [.data, .data, .data, .data, .sentinel, .sentinel, .pinned], laidTests := true, laidLooks := .later }
def SearchEvalUptoCardSaid : Prop := Claim7.holds Tryz.pinned (.plain (OpenSpec.upto searchEvalSpec)) searchEvalUptoCard

/-- THE SECOND FORM's CARD OF 'librarylaw22.SearchOrder'. -/
def searchOrderUptoCard : Claim7 := { stood := { row := searchOrderUptoRow, standIns := [], harness := (true, "aa62f3c90adefaf19a26c8dce76b6a144ecabf8b2881a40070b808f4ff21e5df"), looks := true }, kinds := [], alts := [], laidByText := true, laidKinds := [.data, .data, .data, .data, .sentinel, .sentinel, .pinned], laidTests := true, laidLooks := .later }
def SearchOrderUptoCardSaid : Prop := Claim7.holds Tryz.pinned (.plain (OpenSpec.upto searchOrderSpec)) searchOrderUptoCard

/-- THE SECOND FORM's CARD OF 'librarylaw22.SearchPage'. -/
def searchPageUptoCard : Claim7 := { stood := { row := searchPageUptoRow, standIns := [], harness := (true, "aa62f3c90adefaf19a26c8dce76b6a144ecabf8b2881a40070b808f4ff21e5df"), looks := true }, kinds := [], alts := [], laidByText := true, laidKinds := [.data, .data, .data, .data, .sentinel, .sentinel, .pinned], laidTests := true, laidLooks := .later }
def SearchPageUptoCardSaid : Prop := Claim7.holds Tryz.pinned (.plain (OpenSpec.upto searchPageSpec)) searchPageUptoCard

/-- THE SECOND FORM's CARD OF 'librarylaw22.SearchRun'. -/
def searchRunUptoCard : Claim7 := { stood := { row := searchRunUptoRow, standIns := [], harness := (true, "aa62f3c90adefaf19a26c8dce76b6a144ecabf8b2881a40070b808f4ff21e5df"), looks := true }, kinds := [], alts := [], laidByText := true, laidKinds := [.data, .data, .data, .data, .sentinel, .sentinel, .pinned], laidTests := true, laidLooks := .later }
def SearchRunUptoCardSaid : Prop := Claim7.holds Tryz.pinned (.plain (OpenSpec.upto searchRunSpec)) searchRunUptoCard

/-- THE SECOND FORM's CARD OF 'librarylaw22.SearchPages'. -/
def searchPagesUptoCard : Claim7 := { stood := { row := searchPagesUptoRow, standIns := [], harness := (true, "aa62f3c90adefaf19a26c8dce76b6a144ecabf8b2881a40070b808f4ff21e5df"), looks := true }, kinds := [], alts := [], laidByText := true, laidKinds := [.data, .data, .data, .data, .sentinel, .sentinel, .pinned], laidTests := true, laidLooks := .later }
def SearchPagesUptoCardSaid : Prop := Claim7.holds Tryz.pinned (.plain (OpenSpec.upto searchPagesSpec)) searchPagesUptoCard

/-- THE SECOND FORM's CARD OF 'librarylaw22.SearchMatch'. -/
def searchMatchUptoCard : Claim7 := { stood := { row := searchMatchUptoRow, standIns := [], harness := (true, "aa62f3c90adefaf19a26c8dce76b6a144ecabf8b2881a40070b808f4ff21e5df"), looks := true }, kinds := [], alts := [], laidByText := true, laidKinds := [.data, .data, .data, .data, .sentinel, .sentinel, .pinned], laidTests := true, laidLooks := .later }
def SearchMatchUptoCardSaid : Prop := Claim7.holds Tryz.pinned (.plain (OpenSpec.upto searchMatchSpec)) searchMatchUptoCard

/-- THE SECOND FORM's CARD OF 'librarylaw22.SearchExact'. -/
def searchExactUptoCard : Claim7 := { stood := { row := searchExactUptoRow, standIns := [], harness := (true, "aa62f3c90adefaf19a26c8dce76b6a144ecabf8b2881a40070b808f4ff21e5df"), looks := true }, kinds := [], alts := [], laidByText := true, laidKinds := [.data, .data, .data, .data, .sentinel, .sentinel, .pinned], laidTests := true, laidLooks := .later }
def SearchExactUptoCardSaid : Prop := Claim7.holds Tryz.pinned (.plain (OpenSpec.upto searchExactSpec)) searchExactUptoCard
end Rows
end Go.Proofs.YtlakomilichhnaaGreatDoor
