/-
  DERIVED. GIVEN WITH THE SEED: THE CARDS: each row of YtbacgfokgphgeaaDoorRows.lean that lists a variable, with what it lists TIED to the program's text (the seventh form; the later family's looks); each row that meets fmt, with fmt's text TOLD by the authors' own Lean function (tested against real Go, not proved from fmt's source: count such statements apart). THE CARD IS WHAT COUNTS. Prove the row's statement (the work); the ties are given (YtbacgfokgphgeaaDoorTie.lean); close each card by the builder's one call (the guide's Derived/Test/ToyasCard.lean, 'card_holds'). Laid BY PROGRAM, IN A SANDBOX (cutbox-door.mjs). By AI agents, Wed Nov 11 2026. No macro, syntax, notation, axiom, sorry.
-/
import Derived.Test.YtbacgfokgphgeaaDoorRows
import GoSem.ClaimSeven
namespace Go.Proofs.YtbacgfokgphgeaaDoor
namespace Rows

/-- THE TIED CARD OF 'librarylaw41.MessageRights'. -/
def messageRightsCard : Claim7 := { stood := { row := messageRightsRow, standIns := [], harness := (true, "3c4fd8f994a93f7e5b2f0ece5ec43f91f93f433ebfb68c50a23db3367334bc8d"), looks := true }, kinds := [], alts := [], laidByText := true, laidKinds := [.data, .data, .data, .data, .sentinel, .sentinel, .pinned], laidTests := true, laidLooks := .later }
def MessageRightsCardSaid : Prop := Claim7.holds Tryd.pinned (.plain (OpenSpec.ofChange messageRightsSpec)) messageRightsCard

/-- THE TIED CARD OF 'librarylaw41.MessagePrints'. -/
def messagePrintsCard : Claim7 := { stood := { row := messagePrintsRow, standIns := [], harness := (true, "3c4fd8f994a93f7e5b2f0ece5ec43f91f93f433ebfb68c50a23db3367334bc8d"), looks := true }, kinds := [], alts := [], laidByText := true, laidKinds := [.data, .data, .data, .data, .sentinel, .sentinel, .pinned], laidTests := true, laidLooks := .later }
def MessagePrintsCardSaid : Prop := Claim7.holds Tryd.pinned (.plain (OpenSpec.ofChange messagePrintsSpec)) messagePrintsCard

/-- THE TIED CARD OF 'librarylaw41.MessageParses'. -/
def messageParsesCard : Claim7 := { stood := { row := messageParsesRow, standIns := [], harness := (true, "3c4fd8f994a93f7e5b2f0ece5ec43f91f93f433ebfb68c50a23db3367334bc8d"), looks := true }, kinds := [], alts := [], laidByText := true, laidKinds := [.data, .data, .data, .data, .sentinel, .sentinel, .pinned], laidTests := true, laidLooks := .later }
def MessageParsesCardSaid : Prop := Claim7.holds Tryd.pinned (.plain (OpenSpec.ofChange messageParsesSpec)) messageParsesCard

/-- THE TIED CARD OF 'librarylaw41.MessageNames'. -/
def messageNamesCard : Claim7 := { stood := { row := messageNamesRow, standIns := [], harness := (true, "3c4fd8f994a93f7e5b2f0ece5ec43f91f93f433ebfb68c50a23db3367334bc8d"), looks := true }, kinds := [], alts := [], laidByText := true, laidKinds := [.data, .data, .data, .data, .sentinel, .sentinel, .pinned], laidTests := true, laidLooks := .later }
def MessageNamesCardSaid : Prop := Claim7.holds Tryd.pinned (.plain (OpenSpec.ofChange messageNamesSpec)) messageNamesCard

/-- THE TIED CARD OF 'librarylaw41.MessageRestores'. -/
def messageRestoresCard : Claim7 := { stood := { row := messageRestoresRow, standIns := [], harness := (true, "3c4fd8f994a93f7e5b2f0ece5ec43f91f93f433ebfb68c50a23db3367334bc8d"), looks := true }, kinds := [], alts := [], laidByText := true, laidKinds := [.data, .data, .data, .data, .sentinel, .sentinel, .pinned], laidTests := true, laidLooks := .later }
def MessageRestoresCardSaid : Prop := Claim7.holds Tryd.pinned (.plain (OpenSpec.ofChange messageRestoresSpec)) messageRestoresCard

/-- THE TIED CARD OF 'librarylaw41.MessageUnique'. -/
def messageUniqueCard : Claim7 := { stood := { row := messageUniqueRow, standIns := [], harness := (true, "3c4fd8f994a93f7e5b2f0ece5ec43f91f93f433ebfb68c50a23db3367334bc8d"), looks := true }, kinds := [], alts := [], laidByText := true, laidKinds := [.data, .data, .data, .data, .sentinel, .sentinel, .pinned], laidTests := true, laidLooks := .later }
def MessageUniqueCardSaid : Prop := Claim7.holds Tryd.pinned (.plain (OpenSpec.ofChange messageUniqueSpec)) messageUniqueCard

/-- THE SECOND FORM's CARD OF 'librarylaw41.MessageRights'. -/
def messageRightsUptoCard : Claim7 := { stood := { row := messageRightsUptoRow, standIns := [], harness := (true, "3c4fd8f994a93f7e5b2f0ece5ec43f91f93f433ebfb68c50a23db3367334bc8d"), looks := true }, kinds := [], alts := [], laidByText := true, laidKinds := [.data, .data, .data, .data, .sentinel, .sentinel, .pinned], laidTests := true, laidLooks := .later }
def MessageRightsUptoCardSaid : Prop := Claim7.holds Tryd.pinned (.plain (OpenSpec.upto messageRightsSpec)) messageRightsUptoCard

/-- THE SECOND FORM's CARD OF 'librarylaw41.MessagePrints'. -/
def messagePrintsUptoCard : Claim7 := { stood := { row := messagePrintsUptoRow, standIns := [], harness := (true, "3c4fd8f994a93f7e5b2f0ece5ec43f91f93f433ebfb68c50a23db3367334bc8d"), looks := true }, kinds := [], alts := [], laidByText := true, laidKinds := [.data, .data, .data, .data, .sentinel, .sentinel, .pinned], laidTests := true, laidLooks := .later }
def MessagePrintsUptoCardSaid : Prop := Claim7.holds Tryd.pinned (.plain (OpenSpec.upto messagePrintsSpec)) messagePrintsUptoCard

/-- THE SECOND FORM's CARD OF 'librarylaw41.MessageParses'. -/
def messageParsesUptoCard : Claim7 := { stood := { row := messageParsesUptoRow, standIns := [], harness := (true, "3c4fd8f994a93f7e5b2f0ece5ec43f91f93f433ebfb68c50a23db3367334bc8d"), looks := true }, kinds := [], alts := [], laidByText := true, laidKinds := [.data, .data, .data, .data, .sentinel, .sentinel, .pinned], laidTests := true, laidLooks := .later }
def MessageParsesUptoCardSaid : Prop := Claim7.holds Tryd.pinned (.plain (OpenSpec.upto messageParsesSpec)) messageParsesUptoCard

/-- THE SECOND FORM's CARD OF 'librarylaw41.MessageNames'. -/
def messageNamesUptoCard : Claim7 := { stood := { row := messageNamesUptoRow, standIns := [], harness := (true, "3c4fd8f994a93f7e5b2f0ece5ec43f91f93f433ebfb68c50a23db3367334bc8d"), looks := true }, kinds := [], alts := [], laidByText := true, laidKinds := [.data, .data, .data, .data, .sentinel, .sentinel, .pinned], laidTests := true, laidLooks := .later }
def MessageNamesUptoCardSaid : Prop := Claim7.holds Tryd.pinned (.plain (OpenSpec.upto messageNamesSpec)) messageNamesUptoCard

/-- THE SECOND FORM's CARD OF 'librarylaw41.MessageRestores'. -/
def messageRestoresUptoCard : Claim7 := { stood := { row := messageRestoresUptoRow, standIns := [], harness := (true, "3c4fd8f994a93f7e5b2f0ece5ec43f91f93f433ebfb68c50a23db3367334bc8d"), looks := true }, kinds := [], alts := [], laidByText := true, laidKinds := [.data, .data, .data, .data, .sentinel, .sentinel, .pinned], laidTests := true, laidLooks := .later }
def MessageRestoresUptoCardSaid : Prop := Claim7.holds Tryd.pinned (.plain (OpenSpec.upto messageRestoresSpec)) messageRestoresUptoCard

/-- THE SECOND FORM's CARD OF 'librarylaw41.MessageUnique'. -/
def messageUniqueUptoCard : Claim7 := { stood := { row := messageUniqueUptoRow, standIns := [], harness := (true, "3c4fd8f994a93f7e5b2f0ece5ec43f91f93f433ebfb68c50a23db3367334bc8d"), looks := true }, kinds := [], alts := [], laidByText := true, laidKinds := [.data, .data, .data, .data, .sentinel, .sentinel, .pinned], laidTests := true, laidLooks := .later }
def MessageUniqueUptoCardSaid : Prop := Claim7.holds Tryd.pinned (.plain (OpenSpec.upto messageUniqueSpec)) messageUniqueUptoCard
end Rows
end Go.Proofs.YtbacgfokgphgeaaDoor
