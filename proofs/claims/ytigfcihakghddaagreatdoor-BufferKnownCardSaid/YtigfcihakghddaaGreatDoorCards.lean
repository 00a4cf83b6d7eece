/-
  DERIVED. GIVEN WITH THE SEED: THE CARDS: each row of YtigfcihakghddaaGreatDoorRows.lean that lists a variable, with what it lists TIED to the program's text (the seventh form; the later family's looks); each row that meets fmt, with fmt's text TOLD by the authors' own Lean function (tested against real Go, not proved from fmt's source: count such statements apart). THE CARD IS WHAT COUNTS. Prove the row's statement (the work); the ties are given (YtigfcihakghddaaGreatDoorTie.lean); close each card by the builder's one call (the guide's Derived/Test/ToyasCard.lean, 'card_holds'). Laid BY PROGRAM, IN A SANDBOX (cutbox-door.mjs). By AI agents, Wed Nov 11 2026. No macro, syntax, notation, axiom, sorry.
-/
import Derived.Test.YtigfcihakghddaaGreatDoorRows
import GoSem.ClaimSeven
namespace Go.Proofs.YtigfcihakghddaaGreatDoor
namespace Rows

/-- THE TIED CARD OF 'lecternlaw15.BufferTurns'. -/
def bufferTurnsCard : Claim7 := { stood := { row := bufferTurnsRow, standIns := [], harness := (true, "0a1201c5a7c16bcbeb7ef7cfa4842e38fdb5f0a288b6c59324517a15f5802f2f"), looks := true }, kinds := [], alts := [], laidByText := true, laidKinds := [.data, .data, .data, .data, .sentinel, .sentinel, .pinned], laidTests := true, laidLooks := .later }
def BufferTurnsCardSaid : Prop := Claim7.holds Tryz.pinned (.plain (OpenSpec.ofChange bufferTurnsSpec)) bufferTurnsCard

/-- THE TIED CARD OF 'lecternlaw15.BufferHas'. -/
def bufferHasCard : Claim7 := { stood := { row := bufferHasRow, standIns := [], harness := (true, "0a1201c5a7c16bcbeb7ef7cfa4842e38fdb5f0a288b6c59324517a15f5802f2f"), looks := true }, kinds := [], alts := [], laidByText := true, laidKinds := [.data, .data, .data, .data, .sentinel, .sentinel, .pinned], laidTests := true, laidLooks := .later }
def BufferHasCardSaid : Prop := Claim7.holds Tryz.pinned (.plain (OpenSpec.ofChange bufferHasSpec)) bufferHasCard

/-- THE TIED CARD OF 'lecternlaw15.BufferKnown'. -/
def bufferKnownCard : Claim7 := { stood := { row := bufferKnownRow, standIns := [], harness := (true, "0a1201c5a7c16bcbeb7ef7cfa4842e38fdb5f0a288b6c59324517a15f5802f2f"), looks := true }, kinds := [], alts := [], laidByText := true, laidKinds := [.data, .data, .data, .data, .sentinel, .sentinel, .pinned], laidTests := true, laidLooks := .later }
def BufferKnownCardSaid : Prop := Claim7.holds Tryz.pinned (.plain (OpenSpec.ofChange bufferKnownSpec)) bufferKnownCard

/-- THE TIED CARD OF 'lecternlaw15.BufferCounts'. -/
def bufferCountsCard : Claim7 := { stood := { row := bufferCountsRow, standIns := [], harness := (true, "0a1201c5a7c16bcbeb7ef7cfa4842e38fdb5f0a288b6c59324517a15f5802f2f"), looks := true }, kinds := [], alts := [], laidByText := true, laidKinds := [.data, .data, .data, .data, .sentinel, .sentinel, .pinned], laidTests := true, laidLooks := .later }
def BufferCountsCardSaid : Prop := Claim7.holds Tryz.pinned (.plain (OpenSpec.ofChange bufferCountsSpec)) bufferCountsCard

/-- THE TIED CARD OF 'lecternlaw15.BufferLess'. -/
def bufferLessCard : Claim7 := { stood := { row := bufferLessRow, standIns := [], harness := (true, "0a1201c5a7c16bcbeb7ef7cfa4842e38fdb5f0a288b6c59324517a15f5802f2f"), looks := true }, kinds := [], alts := [], laidByText := true, laidKinds := [.data, .data, .data, .data, .sentinel, .sentinel, .pinned], laidTests := true, laidLooks := .later }
def BufferLessCardSaid : Prop := Claim7.holds Tryz.pinned (.plain (OpenSpec.ofChange bufferLessSpec)) bufferLessCard

/-- THE SECOND FORM's CARD OF 'lecternlaw15.BufferTurns'. -/
def bufferTurnsUptoCard : Claim7 := { stood := { row := bufferTurnsUptoRow, standIns := [], harness := (true, "0a1201c5a7c16bcbeb7ef7cfa4842e38fdb5f0a288b6c59324517a15f5802f2f"), looks := true }, kinds := [], alts := [], laidByText := true, laidKinds := [.data, .data, .data, .data, .sentinel, .sentinel, .pinned], laidTests := true, laidLooks := .later }
def BufferTurnsUptoCardSaid : Prop := Claim7.holds Tryz.pinned (.plain (OpenSpec.upto bufferTurnsSpec)) bufferTurnsUptoCard

/-- THE SECOND FORM's CARD OF 'lecternlaw15.BufferHas'. -/
def bufferHasUptoCard : Claim7 := { stood := { row := bufferHasUptoRow, standIns := [], harness := (true, "0a1201c5a7c16bcbeb7ef7cfa4842e38fdb5f0a288b6c59324517a15f5802f2f"), looks := true }, kinds := [], alts := [], laidByText := true, laidKinds := [.data, .data, .data, .data, .sentinel, .sentinel, .pinned], laidTests := true, laidLooks := .later }
def BufferHasUptoCardSaid : Prop := Claim7.holds Tryz.pinned (.plain (OpenSpec.upto bufferHasSpec)) bufferHasUptoCard

/-- THE SECOND FORM's CARD OF 'lecternlaw15.BufferKnown'. -/
def bufferKnownUptoCard : Claim7 := { stood := { row := bufferKnownUptoRow, standIns := [], harness := (true, "0a1201c5a7c16bcbeb7ef7cfa4842e38fdb5f0a288b6c59324517a15f5802f2f"), looks := true }, kinds := [], alts := [], laidByText := true, laidKinds := [.data, .data, .data, .data, .sentinel, .sentinel, .pinned], laidTests := true, laidLooks := .later }
def BufferKnownUptoCardSaid : Prop := Claim7.holds Tryz.pinned (.plain (OpenSpec.upto bufferKnownSpec)) bufferKnownUptoCard

/-- THE SECOND FORM's CARD OF 'lecternlaw15.BufferCounts'. -/
def bufferCountsUptoCard : Claim7 := { stood := { row := bufferCountsUptoRow, standIns := [], harness := (true, "0a1201c5a7c16bcbeb7ef7cfa4842e38fdb5f0a288b6c59324517a15f5802f2f"), looks := true }, kinds := [], alts := [], laidByText := true, laidKinds := [.data, .data, .data, .data, .sentinel, .sentinel, .pinned], laidTests := true, laidLooks := .later }
def BufferCountsUptoCardSaid : Prop := Claim7.holds Tryz.pinned (.plain (OpenSpec.upto bufferCountsSpec)) bufferCountsUptoCard

/-- THE SECOND FORM's CARD OF 'lecternlaw15.BufferLess'. -/
def bufferLessUptoCard : Claim7 := { stood := { row := bufferLessUptoRow, standIns := [], harness := (true, "0a1201c5a7c16bcbeb7ef7cfa4842e38fdb5f0a288b6c59324517a15f5802f2f"), looks := true }, kinds := [], alts := [], laidByText := true, laidKinds := [.data, .data, .data, .data, .sentinel, .sentinel, .pinned], laidTests := true, laidLooks := .later }
def BufferLessUptoCardSaid : Prop := Claim7.holds Tryz.pinned (.plain (OpenSpec.upto bufferLessSpec)) bufferLessUptoCard
end Rows
end Go.Proofs.YtigfcihakghddaaGreatDoor
