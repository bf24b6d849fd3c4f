/-
  DERIVED. GIVEN WITH THE SEED: THE CARDS: each row of YtkahplbjbidemaaDoorRows.lean that lists a variable, with what it lists TIED to the program's text (the seventh form; the later family's looks); each row that meets fmt, with fmt's text TOLD by the authors' own Lean function (tested against real Go, not proved from fmt's source: count such statements apart). THE CARD IS WHAT COUNTS. Prove the row's statement (the work); the ties are given (YtkahplbjbidemaaDoorTie.lean); close each card by the builder's one call (the guide's Derived/Test/ToyasCard.lean, 'card_holds'). Laid BY PROGRAM, IN A SANDBOX (cutbox-door.mjs). By AI agents, Wed Nov 11 2026. No macro, syntax, notation, axiom, sorry.
-/
import Derived.Test.YtkahplbjbidemaaDoorRows
import GoSem.ClaimSeven
namespace Go.Proofs.YtkahplbjbidemaaDoor
namespace Rows

/-- THE TIED CARD OF 'librarylaw21.QueryRestores'. -/
def queryRestoresCard : Claim7 := { stood := { row := queryRestoresRow, standIns := [], harness := (true, "f164fc7c17e2be67561dac6576b0e05705db20760c683dc3e2b03818a1f6c4a7"), looks := true }, kinds := [], alts := [], laidByText := true, laidKinds := [.data, .data, .data, .data, .sentinel, .sentinel, .pinned], laidTests := true, laidLooks := .later }
def QueryRestoresCardSaid : Prop := Claim7.holds Tryd.pinned (.plain (OpenSpec.ofChange queryRestoresSpec)) queryRestoresCard

/-- THE TIED CARD OF 'librarylaw21.QueryCanonical'. -/
def queryCanonicalCard : Claim7 := { stood := { row := queryCanonicalRow, standIns := [], harness := (true, "f164fc7c17e2be67561dac6576b0e05705db20760c683dc3e2b03818a1f6c4a7"), looks := true }, kinds := [], alts := [], laidByText := true, laidKinds := [.data, .data, .data, .data, .sentinel, .sentinel, .pinned], laidTests := true, laidLooks := .later }
def QueryCanonicalCardSaid : Prop := Claim7.holds Tryd.pinned (.plain (OpenSpec.ofChange queryCanonicalSpec)) queryCanonicalCard

/-- THE SECOND FORM's CARD OF 'librarylaw21.QueryRestores'. -/
def queryRestoresUptoCard : Claim7 := { stood := { row := queryRestoresUptoRow, standIns := [], harness := (true, "f164fc7c17e2be67561dac6576b0e05705db20760c683dc3e2b03818a1f6c4a7"), looks := true }, kinds := [], alts := [], laidByText := true, laidKinds := [.data, .data, .data, .data, .sentinel, .sentinel, .pinned], laidTests := true, laidLooks := .later }
def QueryRestoresUptoCardSaid : Prop := Claim7.holds Tryd.pinned (.plain (OpenSpec.upto queryRestoresSpec)) queryRestoresUptoCard

/-- THE SECOND FORM's CARD OF 'librarylaw21.QueryCanonical'. -/
def queryCanonicalUptoCard : Claim7 := { stood := { row := queryCanonicalUptoRow, standIns := [], harness := (true, "f164fc7c17e2be67561dac6576b0e05705db20760c683dc3e2b03818a1f6c4a7"), looks := true }, kinds := [], alts := [], laidByText := true, laidKinds := [.data, .data, .data, .data, .sentinel, .sentinel, .pinned], laidTests := true, laidLooks := .later }
def QueryCanonicalUptoCardSaid : Prop := Claim7.holds Tryd.pinned (.plain (OpenSpec.upto queryCanonicalSpec)) queryCanonicalUptoCard
end Rows
end Go.Proofs.YtkahplbjbidemaaDoor
