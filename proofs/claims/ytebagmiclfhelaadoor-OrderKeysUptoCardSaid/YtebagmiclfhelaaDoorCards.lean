/-
  DERIVED. GIVEN WITH THE SEED: THE CARDS: each row of YtebagmiclfhelaaDoorRows.lean that lists a variable, with what it lists TIED to the program's text (the seventh form; the later family's looks); each row that meets fmt, with fmt's text TOLD by the authors' own Lean function (tested against real Go, not proved from fmt's source: count such statements apart). THE CARD IS WHAT COUNTS. Prove the row's statement (the work); the ties are given (YtebagmiclfhelaaDoorTie.lean); close each card by the builder's one call (the guide's Derived/Test/ToyasCard.lean, 'card_holds'). Laid BY PROGRAM, IN A SANDBOX (cutbox-door.mjs). By AI agents, Wed Nov 11 2026. No macro, syntax, notation, axiom, sorry.
-/
import Derived.Test.YtebagmiclfhelaaDoorRows
import GoSem.ClaimSeven
namespace Go.Proofs.YtebagmiclfhelaaDoor
namespace Rows

/-- THE TIED CARD OF 'lecternlaw07.OrderDecimals'. -/
def orderDecimalsCard : Claim7 := { stood := { row := orderDecimalsRow, standIns := [], harness := (true, "67ebd00857b8f0478c2f560fc85f0b032e253e5c3451cdb213cbb5d8688e367b"), looks := true }, kinds := [], alts := [], laidByText := true, laidKinds := [.data, .data, .data, .sentinel, .sentinel], laidTests := true, laidLooks := .later }
def OrderDecimalsCardSaid : Prop := Claim7.holds Tryd.pinned (.plain (OpenSpec.ofChange orderDecimalsSpec)) orderDecimalsCard

/-- THE TIED CARD OF 'lecternlaw07.OrderWritten'. -/
def orderWrittenCard : Claim7 := { stood := { row := orderWrittenRow, standIns := [], harness := (true, "67ebd00857b8f0478c2f560fc85f0b032e253e5c3451cdb213cbb5d8688e367b"), looks := true }, kinds := [], alts := [], laidByText := true, laidKinds := [.data, .data, .data, .sentinel, .sentinel], laidTests := true, laidLooks := .later }
def OrderWrittenCardSaid : Prop := Claim7.holds Tryd.pinned (.plain (OpenSpec.ofChange orderWrittenSpec)) orderWrittenCard

/-- THE TIED CARD OF 'lecternlaw07.OrderOrder'. -/
def orderOrderCard : Claim7 := { stood := { row := orderOrderRow, standIns := [], harness := (true, "67ebd00857b8f0478c2f560fc85f0b032e253e5c3451cdb213cbb5d8688e367b"), looks := true }, kinds := [], alts := [], laidByText := true, laidKinds := [.data, .data, .data, .sentinel, .sentinel], laidTests := true, laidLooks := .later }
def OrderOrderCardSaid : Prop := Claim7.holds Tryd.pinned (.plain (OpenSpec.ofChange orderOrderSpec)) orderOrderCard

/-- THE TIED CARD OF 'lecternlaw07.OrderKnown'. -/
def orderKnownCard : Claim7 := { stood := { row := orderKnownRow, standIns := [], harness := (true, "67ebd00857b8f0478c2f560fc85f0b032e253e5c3451cdb213cbb5d8688e367b"), looks := true }, kinds := [], alts := [], laidByText := true, laidKinds := [.data, .data, .data, .sentinel, .sentinel], laidTests := true, laidLooks := .later }
def OrderKnownCardSaid : Prop := Claim7.holds Tryd.pinned (.plain (OpenSpec.ofChange orderKnownSpec)) orderKnownCard

/-- THE TIED CARD OF 'lecternlaw07.OrderKeys'. -/
def orderKeysCard : Claim7 := { stood := { row := orderKeysRow, standIns := [], harness := (true, "67ebd00857b8f0478c2f560fc85f0b032e253e5c3451cdb213cbb5d8688e367b"), looks := true }, kinds := [], alts := [], laidByText := true, laidKinds := [.data, .data, .data, .sentinel, .sentinel], laidTests := true, laidLooks := .later }
def OrderKeysCardSaid : Prop := Claim7.holds Tryd.pinned (.plain (OpenSpec.ofChange orderKeysSpec)) orderKeysCard

/-- THE TIED CARD OF 'lecternlaw07.OrderBytes'. -/
def orderBytesCard : Claim7 := { stood := { row := orderBytesRow, standIns := [], harness := (true, "67ebd00857b8f0478c2f560fc85f0b032e253e5c3451cdb213cbb5d8688e367b"), looks := true }, kinds := [], alts := [], laidByText := true, laidKinds := [.data, .data, .data, .sentinel, .sentinel], laidTests := true, laidLooks := .later }
def OrderBytesCardSaid : Prop := Claim7.holds Tryd.pinned (.plain (OpenSpec.ofChange orderBytesSpec)) orderBytesCard

/-- THE SECOND FORM's CARD OF 'lecternlaw07.OrderDecimals'. -/
def orderDecimalsUptoCard : Claim7 := { stood := { row := orderDecimalsUptoRow, standIns := [], harness := (true, "67ebd00857b8f0478c2f560fc85f0b032e253e5c3451cdb213cbb5d8688e367b"), looks := true }, kinds := [], alts := [], laidByText := true, laidKinds := [.data, .data, .data, .sentinel, .sentinel], laidTests := true, laidLooks := .later }
def OrderDecimalsUptoCardSaid : Prop := Claim7.holds Tryd.pinned (.plain (OpenSpec.upto orderDecimalsSpec)) orderDecimalsUptoCard

/-- THE SECOND FORM's CARD OF 'lecternlaw07.OrderWritten'. -/
def orderWrittenUptoCard : Claim7 := { stood := { row := orderWrittenUptoRow, standIns := [], harness := (true, "67ebd00857b8f0478c2f560fc85f0b032e253e5c3451cdb213cbb5d8688e367b"), looks := true }, kinds := [], alts := [], laidByText := true, laidKinds := [.data, .data, .data, .sentinel, .sentinel], laidTests := true, laidLooks := .later }
def OrderWrittenUptoCardSaid : Prop := Claim7.holds Tryd.pinned (.plain (OpenSpec.upto orderWrittenSpec)) orderWrittenUptoCard

/-- THE SECOND FORM's CARD OF 'lecternlaw07.OrderOrder'. -/
def orderOrderUptoCard : Claim7 := { stood := { row := orderOrderUptoRow, standIns := [], harness := (true, "67ebd00857b8f0478c2f560fc85f0b032e253e5c3451cdb213cbb5d8688e367b"), looks := true }, kinds := [], alts := [], laidByText := true, laidKinds := [.data, .data, .data, .sentinel, .sentinel], laidTests := true, laidLooks := .later }
def OrderOrderUptoCardSaid : Prop := Claim7.holds Tryd.pinned (.plain (OpenSpec.upto orderOrderSpec)) orderOrderUptoCard

/-- THE SECOND FORM's CARD OF 'lecternlaw07.OrderKnown'. -/
def orderKnownUptoCard : Claim7 := { stood := { row := orderKnownUptoRow, standIns := [], harness := (true, "67ebd00857b8f0478c2f560fc85f0b032e253e5c3451cdb213cbb5d8688e367b"), looks := true }, kinds := [], alts := [], laidByText := true, laidKinds := [.data, .data, .data, .sentinel, .sentinel], laidTests := true, laidLooks := .later }
def OrderKnownUptoCardSaid : Prop := Claim7.holds Tryd.pinned (.plain (OpenSpec.upto orderKnownSpec)) orderKnownUptoCard

/-- THE SECOND FORM's CARD OF 'lecternlaw07.OrderKeys'. -/
def orderKeysUptoCard : Claim7 := { stood := { row := orderKeysUptoRow, standIns := [], harness := (true, "67ebd00857b8f0478c2f560fc85f0b032e253e5c3451cdb213cbb5d8688e367b"), looks := true }, kinds := [], alts := [], laidByText := true, laidKinds := [.data, .data, .data, .sentinel, .sentinel], laidTests := true, laidLooks := .later }
def OrderKeysUptoCardSaid : Prop := Claim7.holds Tryd.pinned (.plain (OpenSpec.upto orderKeysSpec)) orderKeysUptoCard

/-- THE SECOND FORM's CARD OF 'lecternlaw07.OrderBytes'. -/
def orderBytesUptoCard : Claim7 := { stood := { row := orderBytesUptoRow, standIns := [], harness := (true, "67ebd00857b8f0478c2f560fc85f0b032e253e5c3451cdb213cbb5d8688e367b"), looks := true }, kinds := [], alts := [], laidByText := true, laidKinds := [.data, .data, .data, .sentinel, .sentinel], laidTests := true, laidLooks := .later }
def OrderBytesUptoCardSaid : Prop := Claim7.holds Tryd.pinned (.plain (OpenSpec.upto orderBytesSpec)) orderBytesUptoCard
end Rows
end Go.Proofs.YtebagmiclfhelaaDoor
