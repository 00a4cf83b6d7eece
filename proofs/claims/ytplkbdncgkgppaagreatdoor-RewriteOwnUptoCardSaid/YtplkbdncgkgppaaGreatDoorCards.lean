/-
  DERIVED. GIVEN WITH THE SEED: THE CARDS: each row of YtplkbdncgkgppaaGreatDoorRows.lean that lists a variable, with what it lists TIED to the program's text (the seventh form; the later family's looks); each row that meets fmt, with fmt's text TOLD by the authors' own Lean function (tested against real Go, not proved from fmt's source: count such statements apart). THE CARD IS WHAT COUNTS. Prove the row's statement (the work); the ties are given (YtplkbdncgkgppaaGreatDoorTie.lean); close each card by the builder's one call (the guide's Derived/Test/ToyasCard.lean, 'card_holds'). Laid BY PROGRAM, IN A SANDBOX (cutbox-door.mjs). By AI agents, Wed Nov 11 2026. No macro, syntax, notation, axiom, sorry.
-/
import Derived.Test.YtplkbdncgkgppaaGreatDoorRows
import GoSem.ClaimSeven
namespace Go.Proofs.YtplkbdncgkgppaaGreatDoor
namespace Rows

/-- THE TIED CARD OF 'lecternlaw19.RewriteMeans'. -/
def rewriteMeansCard : Claim7 := { stood := { row := rewriteMeansRow, standIns := [], harness := (true, "bc35837d516c459b3e2e705c9770eb8e67697c63e89c71f6fffa93c16dc49459"), looks := true }, kinds := [], alts := [], laidByText := true, laidKinds := [.data, .data, .data, .data, .sentinel, .sentinel, .pinned], laidTests := true, laidLooks := .later }
def RewriteMeansCardSaid : Prop := Claim7.holds Tryz.pinned (.plain (OpenSpec.ofChange rewriteMeansSpec)) rewriteMeansCard

/-- THE TIED CARD OF 'lecternlaw19.RewriteOwn'. -/
def rewriteOwnCard : Claim7 := { stood := { row := rewriteOwnRow, standIns := [], harness := (true, "bc35837d516c459b3e2e705c9770eb8e67697c63e89c71f6fffa93c16dc49459"), looks := true }, kinds := [], alts := [], laidByText := true, laidKinds := [.data, .data, .data, .data, .sentinel, .sentinel, .pinned], laidTests := true, laidLooks := .later }
def RewriteOwnCardSaid : Prop := Claim7.holds Tryz.pinned (.plain (OpenSpec.ofChange rewriteOwnSpec)) rewriteOwnCard

/-- THE SECOND FORM's CARD OF 'lecternlaw19.RewriteMeans'. -/
def rewriteMeansUptoCard : Claim7 := { stood := { row := rewriteMeansUptoRow, standIns := [], harness := (true, "bc35837d516c459b3e2e705c9770eb8e67697c63e89c71f6fffa93c16dc49459"), looks := true }, kinds := [], alts := [], laidByText := true, laidKinds := [.data, .data, .data, .data, .sentinel, .sentinel, .pinned], laidTests := true, laidLooks := .later }
def RewriteMeansUptoCardSaid : Prop := Claim7.holds Tryz.pinned (.plain (OpenSpec.upto rewriteMeansSpec)) rewriteMeansUptoCard

/-- THE SECOND FORM's CARD OF 'lecternlaw19.RewriteOwn'. -/
def rewriteOwnUptoCard : Claim7 := { stood := { row := rewriteOwnUptoRow, standIns := [], harness := (true, "bc35837d516c459b3e2e705c9770eb8e67697c63e89c71f6fffa93c16dc49459"), looks := true }, kinds := [], alts := [], laidByText := true, laidKinds := [.data, .data, .data, .data, .sentinel, .sentinel, .pinned], laidTests := true, laidLooks := .later }
def RewriteOwnUptoCardSaid : Prop := Claim7.holds Tryz.pinned (.plain (OpenSpec.upto rewriteOwnSpec)) rewriteOwnUptoCard
end Rows
end Go.Proofs.YtplkbdncgkgppaaGreatDoor
