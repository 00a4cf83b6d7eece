/-
  DERIVED. GIVEN WITH THE SEED: THE CARDS: each row of YtfckomjbgopmaaaGreatDoorRows.lean that lists a variable, with what it lists TIED to the program's text (the seventh form; the later family's looks); each row that meets fmt, with fmt's text TOLD by the authors' own Lean function (tested against real Go, not proved from fmt's source: count such statements apart). THE CARD IS WHAT COUNTS. Prove the row's statement (the work); the ties are given (YtfckomjbgopmaaaGreatDoorTie.lean); close each card by the builder's one call (the guide's Derived/Test/ToyasCard.lean, 'card_holds'). Laid BY PROGRAM, IN A SANDBOX (cutbox-door.mjs). By AI agents, Wed Nov 11 2026. No macro, syntax, notation, axiom, sorry.
-/
import Derived.Test.YtfckomjbgopmaaaGreatDoorRows
import GoSem.ClaimSeven
namespace Go.Proofs.YtfckomjbgopmaaaGreatDoor
namespace Rows

/-- THE TIED CARD OF 'lecternlaw08.SchemaBacks'. -/
def schemaBacksCard : Claim7 := { stood := { row := schemaBacksRow, standIns := [], harness := (true, "a143675ca3649d5b97f1c23a4b346732536d870d7ebe7e0e0359490fe6a62cb0"), looks := true }, kinds := [], alts := [], laidByText := true, laidKinds := [.data, .data, .data, .data, .pinned], laidTests := true, laidLooks := .later }
def SchemaBacksCardSaid : Prop := Claim7.holds Tryz.pinned (.plain (OpenSpec.ofChange schemaBacksSpec)) schemaBacksCard

/-- THE TIED CARD OF 'lecternlaw08.SchemaCells'. -/
def schemaCellsCard : Claim7 := { stood := { row := schemaCellsRow, standIns := [], harness := (true, "a143675ca3649d5b97f1c23a4b346732536d870d7ebe7e0e0359490fe6a62cb0"), looks := true }, kinds := [], alts := [], laidByText := true, laidKinds := [.data, .data, .data, .data, .sentinel, .sentinel, .pinned], laidTests := true, laidLooks := .later }
def SchemaCellsCardSaid : Prop := Claim7.holds Tryz.pinned (.plain (OpenSpec.ofChange schemaCellsSpec)) schemaCellsCard

/-- THE TIED CARD OF 'lecternlaw08.SchemaBack'. -/
def schemaBackCard : Claim7 := { stood := { row := schemaBackRow, standIns := [], harness := (true, "a143675ca3649d5b97f1c23a4b346732536d870d7ebe7e0e0359490fe6a62cb0"), looks := true }, kinds := [], alts := [], laidByText := true, laidKinds := [.data, .data, .data, .data, .sentinel, .sentinel, .pinned], laidTests := true, laidLooks := .later }
def SchemaBackCardSaid : Prop := Claim7.holds Tryz.pinned (.plain (OpenSpec.ofChange schemaBackSpec)) schemaBackCard

/-- THE TIED CARD OF 'lecternlaw08.SchemaOrder'. -/
def schemaOrderCard : Claim7 := { stood := { row := schemaOrderRow, standIns := [], harness := (true, "a143675ca3649d5b97f1c23a4b346732536d870d7ebe7e0e0359490fe6a62cb0"), looks := true }, kinds := [], alts := [], laidByText := true, laidKinds := [.data, .data, .data, .data, .sentinel, .sentinel, .pinned], laidTests := true, laidLooks := .later }
def SchemaOrderCardSaid : Prop := Claim7.holds Tryz.pinned (.plain (OpenSpec.ofChange schemaOrderSpec)) schemaOrderCard

/-- THE TIED CARD OF 'lecternlaw08.SchemaTokens'. -/
def schemaTokensCard : Claim7 := { stood := { row := schemaTokensRow, standIns := [], harness := (true, "a143675ca3649d5b97f1c23a4b346732536d870d7ebe7e0e0359490fe6a62cb0"), looks := true }, kinds := [], alts := [], laidByText := true, laidKinds := [.data, .data, .data, .data, .sentinel, .sentinel, .pinned], laidTests := true, laidLooks := .later }
def SchemaTokensCardSaid : Prop := Claim7.holds Tryz.pinned (.plain (OpenSpec.ofChange schemaTokensSpec)) schemaTokensCard

/-- THE TIED CARD OF 'lecternlaw08.SchemaOwn'. -/
def schemaOwnCard : Claim7 := { stood := { row := schemaOwnRow, standIns := [], harness := (true, "a143675ca3649d5b97f1c23a4b346732536d870d7ebe7e0e0359490fe6a62cb0"), looks := true }, kinds := [], alts := [], laidByText := true, laidKinds := [.data, .data, .data, .data, .sentinel, .sentinel, .pinned], laidTests := true, laidLooks := .later }
def SchemaOwnCardSaid : Prop := Claim7.holds Tryz.pinned (.plain (OpenSpec.ofChange schemaOwnSpec)) schemaOwnCard

/-- THE SECOND FORM's CARD OF 'lecternlaw08.SchemaBacks'. -/
def schemaBacksUptoCard : Claim7 := { stood := { row := schemaBacksUptoRow, standIns := [], harness := (true, "a143675ca3649d5b97f1c23a4b346732536d870d7ebe7e0e0359490fe6a62cb0"), looks := true }, kinds := [], alts := [], laidByText := true, laidKinds := [.data, .data, .data, .data, .pinned], laidTests := true, laidLooks := .later }
def SchemaBacksUptoCardSaid : Prop := Claim7.holds Tryz.pinned (.plain (OpenSpec.upto schemaBacksSpec)) schemaBacksUptoCard

/-- THE SECOND FORM's CARD OF 'lecternlaw08.SchemaCells'. -/
def schemaCellsUptoCard : Claim7 := { stood := { row := schemaCellsUptoRow, standIns := [], harness := (true, "a143675ca3649d5b97f1c23a4b346732536d870d7ebe7e0e0359490fe6a62cb0"), looks := true }, kinds := [], alts := [], laidByText := true, laidKinds := [.data, .data, .data, .data, .sentinel, .sentinel, .pinned], laidTests := true, laidLooks := .later }
def SchemaCellsUptoCardSaid : Prop := Claim7.holds Tryz.pinned (.plain (OpenSpec.upto schemaCellsSpec)) schemaCellsUptoCard

/-- THE SECOND FORM's CARD OF 'lecternlaw08.SchemaBack'. -/
def schemaBackUptoCard : Claim7 := { stood := { row := schemaBackUptoRow, standIns := [], harness := (true, "a143675ca3649d5b97f1c23a4b346732536d870d7ebe7e0e0359490fe6a62cb0"), looks := true }, kinds := [], alts := [], laidByText := true, laidKinds := [.data, .data, .data, .data, .sentinel, .sentinel, .pinned], laidTests := true, laidLooks := .later }
def SchemaBackUptoCardSaid : Prop := Claim7.holds Tryz.pinned (.plain (OpenSpec.upto schemaBackSpec)) schemaBackUptoCard

/-- THE SECOND FORM's CARD OF 'lecternlaw08.SchemaOrder'. -/
def schemaOrderUptoCard : Claim7 := { stood := { row := schemaOrderUptoRow, standIns := [], harness := (true, "a143675ca3649d5b97f1c23a4b346732536d870d7ebe7e0e0359490fe6a62cb0"), looks := true }, kinds := [], alts := [], laidByText := true, laidKinds := [.data, .data, .data, .data, .sentinel, .sentinel, .pinned], laidTests := true, laidLooks := .later }
def SchemaOrderUptoCardSaid : Prop := Claim7.holds Tryz.pinned (.plain (OpenSpec.upto schemaOrderSpec)) schemaOrderUptoCard

/-- THE SECOND FORM's CARD OF 'lecternlaw08.SchemaTokens'. -/
def schemaTokensUptoCard : Claim7 := { stood := { row := schemaTokensUptoRow, standIns := [], harness := (true, "a143675ca3649d5b97f1c23a4b346732536d870d7ebe7e0e0359490fe6a62cb0"), looks := true }, kinds := [], alts := [], laidByText := true, laidKinds := [.data, .data, .data, .data, .sentinel, .sentinel, .pinned], laidTests := true, laidLooks := .later }
def SchemaTokensUptoCardSaid : Prop := Claim7.holds Tryz.pinned (.plain (OpenSpec.upto schemaTokensSpec)) schemaTokensUptoCard

/-- THE SECOND FORM's CARD OF 'lecternlaw08.SchemaOwn'. -/
def schemaOwnUptoCard : Claim7 := { stood := { row := schemaOwnUptoRow, standIns := [], harness := (true, "a143675ca3649d5b97f1c23a4b346732536d870d7ebe7e0e0359490fe6a62cb0"), looks := true }, kinds := [], alts := [], laidByText := true, laidKinds := [.data, .data, .data, .data, .sentinel, .sentinel, .pinned], laidTests := true, laidLooks := .later }
def SchemaOwnUptoCardSaid : Prop := Claim7.holds Tryz.pinned (.plain (OpenSpec.upto schemaOwnSpec)) schemaOwnUptoCard
end Rows
end Go.Proofs.YtfckomjbgopmaaaGreatDoor
