/-
  DERIVED. GIVEN WITH THE SEED: THE CARDS: each row of YtkahplbjbidemaaGreatDoorRows.lean that lists a variable, with what it lists TIED to the program's text (the seventh form; the later family's looks); each row that meets fmt, with fmt's text TOLD by the authors' own Lean function (tested against real Go, not proved from fmt's source: count such statements apart). THE CARD IS WHAT COUNTS. Prove the row's statement (the work); the ties are given (YtkahplbjbidemaaGreatDoorTie.lean); close each card by the builder's one call (the guide's Derived/Test/ToyasCard.lean, 'card_holds'). Laid BY PROGRAM, IN A SANDBOX (cutbox-door.mjs). By AI agents, Wed Nov 11 2026. No macro, syntax, notation, axiom, sorry.
-/
import Derived.Test.YtkahplbjbidemaaGreatDoorRows
import GoSem.ClaimSeven
namespace Go.Proofs.YtkahplbjbidemaaGreatDoor
namespace Rows

/-- THE TIED CARD OF 'librarylaw21.QueryRights'. -/
def queryRightsCard : Claim7 := { stood := { row := queryRightsRow, standIns := [], harness := (true, "5b08927af384f89e03279ea02bb400a0aa7dc06a101bd362676ee1c45e40036b"), looks := true }, kinds := [], alts := [], laidByText := true, laidKinds := [.data, .data, .data, .data, .sentinel, .sentinel, .pinned], laidTests := true, laidLooks := .later }
def QueryRightsCardSaid : Prop := Claim7.holds Tryz.pinned (.plain (OpenSpec.ofChange queryRightsSpec)) queryRightsCard

/-- THE TIED CARD OF 'librarylaw21.QueryParses'. -/
def queryParsesCard : Claim7 := { stood := { row := queryParsesRow, standIns := [], harness := (true, "5b08927af384f89e03279ea02bb400a0aa7dc06a101bd362676ee1c45e40036b"), looks := true }, kinds := [], alts := [], laidByText := true, laidKinds := [.data, .data, .data, .data, .sentinel, .sentinel, .pinned], laidTests := true, laidLooks := .later }
def QueryParsesCardSaid : Prop := Claim7.holds Tryz.pinned (.plain (OpenSpec.ofChange queryParsesSpec)) queryParsesCard

/-- THE TIED CARD OF 'librarylaw21.QueryPrints'. -/
def queryPrintsCard : Claim7 := { stood := { row := queryPrintsRow, standIns := [], harness := (true, "5b08927af384f89e03279ea02bb400a0aa7dc06a101bd362676ee1c45e40036b"), looks := true }, kinds := [], alts := [], laidByText := true, laidKinds := [.data, .data, .data, .data, .sentinel, .sentinel, .pinned], laidTests := true, laidLooks := .later }
def QueryPrintsCardSaid : Prop := Claim7.holds Tryz.pinned (.plain (OpenSpec.ofChange queryPrintsSpec)) queryPrintsCard

/-- THE TIED CARD OF 'librarylaw21.QuerySames'. -/
def querySamesCard : Claim7 := { stood := { row := querySamesRow, standIns := [], harness := (true, "5b08927af384f89e03279ea02bb400a0aa7dc06a101bd362676ee1c45e40036b"), looks := true }, kinds := [], alts := [], laidByText := true, laidKinds := [.data, .data, .data, .data, .sentinel, .sentinel, .pinned], laidTests := true, laidLooks := .later }
def QuerySamesCardSaid : Prop := Claim7.holds Tryz.pinned (.plain (OpenSpec.ofChange querySamesSpec)) querySamesCard

/-- THE TIED CARD OF 'librarylaw21.QueryNests'. -/
def queryNestsCard : Claim7 := { stood := { row := queryNestsRow, standIns := [], harness := (true, "5b08927af384f89e03279ea02bb400a0aa7dc06a101bd362676ee1c45e40036b"), looks := true }, kinds := [], alts := [], laidByText := true, laidKinds := [.data, .data, .data, .data, .sentinel, .sentinel, .pinned], laidTests := true, laidLooks := .later }
def QueryNestsCardSaid : Prop := Claim7.holds Tryz.pinned (.plain (OpenSpec.ofChange queryNestsSpec)) queryNestsCard

/-- THE SECOND FORM's CARD OF 'librarylaw21.QueryRights'. -/
def queryRightsUptoCard : Claim7 := { stood := { row := queryRightsUptoRow, standIns := [], harness := (true, "5b08927af384f89e03279ea02bb400a0aa7dc06a101bd362676ee1c45e40036b"), looks := true }, kinds := [], alts := [], laidByText := true, laidKinds := [.data, .data, .data, .data, .sentinel, .sentinel, .pinned], laidTests := true, laidLooks := .later }
def QueryRightsUptoCardSaid : Prop := Claim7.holds Tryz.pinned (.plain (OpenSpec.upto queryRightsSpec)) queryRightsUptoCard

/-- THE SECOND FORM's CARD OF 'librarylaw21.QueryParses'. -/
def queryParsesUptoCard : Claim7 := { stood := { row := queryParsesUptoRow, standIns := [], harness := (true, "5b08927af384f89e03279ea02bb400a0aa7dc06a101bd362676ee1c45e40036b"), looks := true }, kinds := [], alts := [], laidByText := true, laidKinds := [.data, .data, .data, .data, .sentinel, .sentinel, .pinned], laidTests := true, laidLooks := .later }
def QueryParsesUptoCardSaid : Prop := Claim7.holds Tryz.pinned (.plain (OpenSpec.upto queryParsesSpec)) queryParsesUptoCard

/-- THE SECOND FORM's CARD OF 'librarylaw21.QueryPrints'. -/
def queryPrintsUptoCard : Claim7 := { stood := { row := queryPrintsUptoRow, standIns := [], harness := (true, "5b08927af384f89e03279ea02bb400a0aa7dc06a101bd362676ee1c45e40036b"), looks := true }, kinds := [], alts := [], laidByText := true, laidKinds := [.data, .data, .data, .data, .sentinel, .sentinel, .pinned], laidTests := true, laidLooks := .later }
def QueryPrintsUptoCardSaid : Prop := Claim7.holds Tryz.pinned (.plain (OpenSpec.upto queryPrintsSpec)) queryPrintsUptoCard

/-- THE SECOND FORM's CARD OF 'librarylaw21.QuerySames'. -/
def querySamesUptoCard : Claim7 := { stood := { row := querySamesUptoRow, standIns := [], harness := (true, "5b08927af384f89e03279ea02bb400a0aa7dc06a101bd362676ee1c45e40036b"), looks := true }, kinds := [], alts := [], laidByText := true, laidKinds := [.data, .data, .data, .data, .sentinel, .sentinel, .pinned], laidTests := true, laidLooks := .later }
def QuerySamesUptoCardSaid : Prop := Claim7.holds Tryz.pinned (.plain (OpenSpec.upto querySamesSpec)) querySamesUptoCard

/-- THE SECOND FORM's CARD OF 'librarylaw21.QueryNests'. -/
def queryNestsUptoCard : Claim7 := { stood := { row := queryNestsUptoRow, standIns := [], harness := (true, "5b08927af384f89e03279ea02bb400a0aa7dc06a101bd362676ee1c45e40036b"), looks := true }, kinds := [], alts := [], laidByText := true, laidKinds := [.data, .data, .data, .data, .sentinel, .sentinel, .pinned], laidTests := true, laidLooks := .later }
def QueryNestsUptoCardSaid : Prop := Claim7.holds Tryz.pinned (.plain (OpenSpec.upto queryNestsSpec)) queryNestsUptoCard
end Rows
end Go.Proofs.YtkahplbjbidemaaGreatDoor
