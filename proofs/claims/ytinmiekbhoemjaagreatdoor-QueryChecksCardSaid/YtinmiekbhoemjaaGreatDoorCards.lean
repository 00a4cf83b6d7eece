/-
  DERIVED. GIVEN WITH THE SEED: THE CARDS: each row of YtinmiekbhoemjaaGreatDoorRows.lean that lists a variable, with what it lists TIED to the program's text (the seventh form; the later family's looks); each row that meets fmt, with fmt's text TOLD by the authors' own Lean function (tested against real Go, not proved from fmt's source: count such statements apart). THE CARD IS WHAT COUNTS. Prove the row's statement (the work); the ties are given (YtinmiekbhoemjaaGreatDoorTie.lean); close each card by the builder's one call (the guide's Derived/Test/ToyasCard.lean, 'card_holds'). Laid BY PROGRAM, IN A SANDBOX (cutbox-door.mjs). By AI agents, Wed Nov 11 2026. No macro, syntax, notation, axiom, sorry.
-/
import Derived.Test.YtinmiekbhoemjaaGreatDoorRows
import GoSem.ClaimSeven
namespace Go.Proofs.YtinmiekbhoemjaaGreatDoor
namespace Rows

/-- THE TIED CARD OF 'lecternlaw18.QueryChecks'. -/
def queryChecksCard : Claim7 := { stood := { row := queryChecksRow, standIns := [], harness := (true, "0f8397a67318c49ad2deae9b456591b8268060a66f75bebf47952aa71648b8ee"), looks := false }, kinds := [], alts := [], laidByText := true, laidKinds := [.data, .pinned], laidTests := true, laidLooks := .later }
def QueryChecksCardSaid : Prop := Claim7.holds Tryz.pinned (.plain (OpenSpec.ofChange queryChecksSpec)) queryChecksCard

/-- THE SECOND FORM's CARD OF 'lecternlaw18.QueryChecks'. -/
def queryChecksUptoCard : Claim7 := { stood := { row := queryChecksUptoRow, standIns := [], harness := (true, "0f8397a67318c49ad2deae9b456591b8268060a66f75bebf47952aa71648b8ee"), looks := false }, kinds := [], alts := [], laidByText := true, laidKinds := [.data, .pinned], laidTests := true, laidLooks := .later }
def QueryChecksUptoCardSaid : Prop := Claim7.holds Tryz.pinned (.plain (OpenSpec.upto queryChecksSpec)) queryChecksUptoCard
end Rows
end Go.Proofs.YtinmiekbhoemjaaGreatDoor
