/-
  DERIVED. GIVEN WITH THE SEED: THE CARDS: each row of YtcjalpegffldaaaGreatDoorRows.lean that lists a variable, with what it lists TIED to the program's text (the seventh form; the later family's looks); each row that meets fmt, with fmt's text TOLD by the authors' own Lean function (tested against real Go, not proved from fmt's source: count such statements apart). THE CARD IS WHAT COUNTS. Prove the row's statement (the work); the ties are given (YtcjalpegffldaaaGreatDoorTie.lean); close each card by the builder's one call (the guide's Derived/Test/ToyasCard.lean, 'card_holds'). Laid BY PROGRAM, IN A SANDBOX (cutbox-door.mjs). By AI agents, Wed Nov 11 2026. No macro, syntax, notation, axiom, sorry.
-/
import Derived.Test.YtcjalpegffldaaaGreatDoorRows
import GoSem.ClaimSeven
namespace Go.Proofs.YtcjalpegffldaaaGreatDoor
namespace Rows

/-- THE TIED CARD OF 'librarylaw20.IndexTerms'. -/
def indexTermsCard : Claim7 := { stood := { row := indexTermsRow, standIns := [], harness := (true, "6924001d960f8642a6d3cfc0a2ecbc2ad18a49c475d482805512f7924f32ef0c"), looks := false }, kinds := [], alts := [], laidByText := true, laidKinds := [.data, .pinned], laidTests := true, laidLooks := .later }
def IndexTermsCardSaid : Prop := Claim7.holds Tryz.pinned (.plain (OpenSpec.ofChange indexTermsSpec)) indexTermsCard

/-- THE TIED CARD OF 'librarylaw20.IndexBuilds'. -/
def indexBuildsCard : Claim7 := { stood := { row := indexBuildsRow, standIns := [], harness := (true, "6924001d960f8642a6d3cfc0a2ecbc2ad18a49c475d482805512f7924f32ef0c"), looks := false }, kinds := [], alts := [], laidByText := true, laidKinds := [.data, .pinned], laidTests := true, laidLooks := .later }
def IndexBuildsCardSaid : Prop := Claim7.holds Tryz.pinned (.plain (OpenSpec.ofChange indexBuildsSpec)) indexBuildsCard

/-- THE TIED CARD OF 'librarylaw20.IndexFinds'. -/
def indexFindsCard : Claim7 := { stood := { row := indexFindsRow, standIns := [], harness := (true, "6924001d960f8642a6d3cfc0a2ecbc2ad18a49c475d482805512f7924f32ef0c"), looks := false }, kinds := [], alts := [], laidByText := true, laidKinds := [.data, .pinned], laidTests := true, laidLooks := .later }
def IndexFindsCardSaid : Prop := Claim7.holds Tryz.pinned (.plain (OpenSpec.ofChange indexFindsSpec)) indexFindsCard

/-- THE TIED CARD OF 'librarylaw20.IndexTells'. -/
def indexTellsCard : Claim7 := { stood := { row := indexTellsRow, standIns := [], harness := (true, "6924001d960f8642a6d3cfc0a2ecbc2ad18a49c475d482805512f7924f32ef0c"), looks := false }, kinds := [], alts := [], laidByText := true, laidKinds := [.data, .pinned], laidTests := true, laidLooks := .later }
def IndexTellsCardSaid : Prop := Claim7.holds Tryz.pinned (.plain (OpenSpec.ofChange indexTellsSpec)) indexTellsCard

/-- THE TIED CARD OF 'librarylaw20.IndexAdds'. -/
def indexAddsCard : Claim7 := { stood := { row := indexAddsRow, standIns := [], harness := (true, "6924001d960f8642a6d3cfc0a2ecbc2ad18a49c475d482805512f7924f32ef0c"), looks := false }, kinds := [], alts := [], laidByText := true, laidKinds := [.data, .pinned], laidTests := true, laidLooks := .later }
def IndexAddsCardSaid : Prop := Claim7.holds Tryz.pinned (.plain (OpenSpec.ofChange indexAddsSpec)) indexAddsCard

/-- THE TIED CARD OF 'librarylaw20.IndexSteps'. -/
def indexStepsCard : Claim7 := { stood := { row := indexStepsRow, standIns := [], harness := (true, "6924001d960f8642a6d3cfc0a2ecbc2ad18a49c475d482805512f7924f32ef0c"), looks := false }, kinds := [], alts := [], laidByText := true, laidKinds := [.data, .pinned], laidTests := true, laidLooks := .later }
def IndexStepsCardSaid : Prop := Claim7.holds Tryz.pinned (.plain (OpenSpec.ofChange indexStepsSpec)) indexStepsCard

/-- THE SECOND FORM's CARD OF 'librarylaw20.IndexTerms'. -/
def indexTermsUptoCard : Claim7 := { stood := { row := indexTermsUptoRow, standIns := [], harness := (true, "6924001d960f8642a6d3cfc0a2ecbc2ad18a49c475d482805512f7924f32ef0c"), looks := false }, kinds := [], alts := [], laidByText := true, laidKinds := [.data, .pinned], laidTests := true, laidLooks := .later }
def IndexTermsUptoCardSaid : Prop := Claim7.holds Tryz.pinned (.plain (OpenSpec.upto indexTermsSpec)) indexTermsUptoCard

/-- THE SECOND FORM's CARD OF 'librarylaw20.IndexBuilds'. -/
def indexBuildsUptoCard : Claim7 := { stood := { row := indexBuildsUptoRow, standIns := [], harness := (true, "6924001d960f8642a6d3cfc0a2ecbc2ad18a49c475d482805512f7924f32ef0c"), looks := false }, kinds := [], alts := [], laidByText := true, laidKinds := [.data, .pinned], laidTests := true, laidLooks := .later }
def IndexBuildsUptoCardSaid : Prop := Claim7.holds Tryz.pinned (.plain (OpenSpec.upto indexBuildsSpec)) indexBuildsUptoCard

/-- THE SECOND FORM's CARD OF 'librarylaw20.IndexFinds'. -/
def indexFindsUptoCard : Claim7 := { stood := { row := indexFindsUptoRow, standIns := [], harness := (true, "6924001d960f8642a6d3cfc0a2ecbc2ad18a49c475d482805512f7924f32ef0c"), looks := false }, kinds := [], alts := [], laidByText := true, laidKinds := [.data, .pinned], laidTests := true, laidLooks := .later }
def IndexFindsUptoCardSaid : Prop := Claim7.holds Tryz.pinned (.plain (OpenSpec.upto indexFindsSpec)) indexFindsUptoCard

/-- THE SECOND FORM's CARD OF 'librarylaw20.IndexTells'. -/
def indexTellsUptoCard : Claim7 := { stood := { row := indexTellsUptoRow, standIns := [], harness := (true, "6924001d960f8642a6d3cfc0a2ecbc2ad18a49c475d482805512f7924f32ef0c"), looks := false }, kinds := [], alts := [], laidByText := true, laidKinds := [.data, .pinned], laidTests := true, laidLooks := .later }
def IndexTellsUptoCardSaid : Prop := Claim7.holds Tryz.pinned (.plain (OpenSpec.upto indexTellsSpec)) indexTellsUptoCard

/-- THE SECOND FORM's CARD OF 'librarylaw20.IndexAdds'. -/
def indexAddsUptoCard : Claim7 := { stood := { row := indexAddsUptoRow, standIns := [], harness := (true, "6924001d960f8642a6d3cfc0a2ecbc2ad18a49c475d482805512f7924f32ef0c"), looks := false }, kinds := [], alts := [], laidByText := true, laidKinds := [.data, .pinned], laidTests := true, laidLooks := .later }
def IndexAddsUptoCardSaid : Prop := Claim7.holds Tryz.pinned (.plain (OpenSpec.upto indexAddsSpec)) indexAddsUptoCard

/-- THE SECOND FORM's CARD OF 'librarylaw20.IndexSteps'. -/
def indexStepsUptoCard : Claim7 := { stood := { row := indexStepsUptoRow, standIns := [], harness := (true, "6924001d960f8642a6d3cfc0a2ecbc2ad18a49c475d482805512f7924f32ef0c"), looks := false }, kinds := [], alts := [], laidByText := true, laidKinds := [.data, .pinned], laidTests := true, laidLooks := .later }
def IndexStepsUptoCardSaid : Prop := Claim7.holds Tryz.pinned (.plain (OpenSpec.upto indexStepsSpec)) indexStepsUptoCard
end Rows
end Go.Proofs.YtcjalpegffldaaaGreatDoor
