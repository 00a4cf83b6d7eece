/-
  DERIVED. GIVEN WITH THE SEED: THE CARDS: each row of YtdgmgedecnbmdaaDoorRows.lean that lists a variable, with what it lists TIED to the program's text (the seventh form; the later family's looks); each row that meets fmt, with fmt's text TOLD by the authors' own Lean function (tested against real Go, not proved from fmt's source: count such statements apart). THE CARD IS WHAT COUNTS. Prove the row's statement (the work); the ties are given (YtdgmgedecnbmdaaDoorTie.lean); close each card by the builder's one call (the guide's Derived/Test/ToyasCard.lean, 'card_holds'). Laid BY PROGRAM, IN A SANDBOX (cutbox-door.mjs). By AI agents, Wed Nov 11 2026. No macro, syntax, notation, axiom, sorry.
-/
import Derived.Test.YtdgmgedecnbmdaaDoorRows
import GoSem.ClaimSeven
namespace Go.Proofs.YtdgmgedecnbmdaaDoor
namespace Rows

/-- THE TIED CARD OF 'lecternlaw05.FoldRunes'. -/
def foldRunesCard : Claim7 := { stood := { row := foldRunesRow, standIns := [], harness := (true, "3e51fe55f05ec39cab5d16d650b03885bed8c7699d1b635998c6db6ddc82101d"), looks := false }, kinds := [], alts := [], laidByText := true, laidKinds := [.data, .pinned], laidTests := true, laidLooks := .later }
def FoldRunesCardSaid : Prop := Claim7.holds Tryd.pinned (.plain (OpenSpec.ofChange foldRunesSpec)) foldRunesCard

/-- THE TIED CARD OF 'lecternlaw05.FoldTexts'. -/
def foldTextsCard : Claim7 := { stood := { row := foldTextsRow, standIns := [], harness := (true, "3e51fe55f05ec39cab5d16d650b03885bed8c7699d1b635998c6db6ddc82101d"), looks := false }, kinds := [], alts := [], laidByText := true, laidKinds := [.data, .pinned], laidTests := true, laidLooks := .later }
def FoldTextsCardSaid : Prop := Claim7.holds Tryd.pinned (.plain (OpenSpec.ofChange foldTextsSpec)) foldTextsCard

/-- THE TIED CARD OF 'lecternlaw05.FoldEarly'. -/
def foldEarlyCard : Claim7 := { stood := { row := foldEarlyRow, standIns := [], harness := (true, "3e51fe55f05ec39cab5d16d650b03885bed8c7699d1b635998c6db6ddc82101d"), looks := false }, kinds := [], alts := [], laidByText := true, laidKinds := [.data, .pinned], laidTests := true, laidLooks := .later }
def FoldEarlyCardSaid : Prop := Claim7.holds Tryd.pinned (.plain (OpenSpec.ofChange foldEarlySpec)) foldEarlyCard

/-- THE TIED CARD OF 'lecternlaw05.FoldWhole'. -/
def foldWholeCard : Claim7 := { stood := { row := foldWholeRow, standIns := [], harness := (true, "3e51fe55f05ec39cab5d16d650b03885bed8c7699d1b635998c6db6ddc82101d"), looks := false }, kinds := [], alts := [], laidByText := true, laidKinds := [.data, .pinned], laidTests := true, laidLooks := .later }
def FoldWholeCardSaid : Prop := Claim7.holds Tryd.pinned (.plain (OpenSpec.ofChange foldWholeSpec)) foldWholeCard

/-- THE TIED CARD OF 'lecternlaw05.FoldLower'. -/
def foldLowerCard : Claim7 := { stood := { row := foldLowerRow, standIns := [], harness := (true, "3e51fe55f05ec39cab5d16d650b03885bed8c7699d1b635998c6db6ddc82101d"), looks := false }, kinds := [], alts := [], laidByText := true, laidKinds := [.data, .pinned], laidTests := true, laidLooks := .later }
def FoldLowerCardSaid : Prop := Claim7.holds Tryd.pinned (.plain (OpenSpec.ofChange foldLowerSpec)) foldLowerCard

/-- THE TIED CARD OF 'lecternlaw05.FoldBack'. -/
def foldBackCard : Claim7 := { stood := { row := foldBackRow, standIns := [], harness := (true, "3e51fe55f05ec39cab5d16d650b03885bed8c7699d1b635998c6db6ddc82101d"), looks := false }, kinds := [], alts := [], laidByText := true, laidKinds := [.data, .pinned], laidTests := true, laidLooks := .later }
def FoldBackCardSaid : Prop := Claim7.holds Tryd.pinned (.plain (OpenSpec.ofChange foldBackSpec)) foldBackCard

/-- THE SECOND FORM's CARD OF 'lecternlaw05.FoldRunes'. -/
def foldRunesUptoCard : Claim7 := { stood := { row := foldRunesUptoRow, standIns := [], harness := (true, "3e51fe55f05ec39cab5d16d650b03885bed8c7699d1b635998c6db6ddc82101d"), looks := false }, kinds := [], alts := [], laidByText := true, laidKinds := [.data, .pinned], laidTests := true, laidLooks := .later }
def FoldRunesUptoCardSaid : Prop := Claim7.holds Tryd.pinned (.plain (OpenSpec.upto foldRunesSpec)) foldRunesUptoCard

/-- THE SECOND FORM's CARD OF 'lecternlaw05.FoldTexts'. -/
def foldTextsUptoCard : Claim7 := { stood := { row := foldTextsUptoRow, standIns := [], harness := (true, "3e51fe55f05ec39cab5d16d650b03885bed8c7699d1b635998c6db6ddc82101d"), looks := false }, kinds := [], alts := [], laidByText := true, laidKinds := [.data, .pinned], laidTests := true, laidLooks := .later }
def FoldTextsUptoCardSaid : Prop := Claim7.holds Tryd.pinned (.plain (OpenSpec.upto foldTextsSpec)) foldTextsUptoCard

/-- THE SECOND FORM's CARD OF 'lecternlaw05.FoldEarly'. -/
def foldEarlyUptoCard : Claim7 := { stood := { row := foldEarlyUptoRow, standIns := [], harness := (true, "3e51fe55f05ec39cab5d16d650b03885bed8c7699d1b635998c6db6ddc82101d"), looks := false }, kinds := [], alts := [], laidByText := true, laidKinds := [.data, .pinned], laidTests := true, laidLooks := .later }
def FoldEarlyUptoCardSaid : Prop := Claim7.holds Tryd.pinned (.plain (OpenSpec.upto foldEarlySpec)) foldEarlyUptoCard

/-- THE SECOND FORM's CARD OF 'lecternlaw05.FoldWhole'. -/
def foldWholeUptoCard : Claim7 := { stood := { row := foldWholeUptoRow, standIns := [], harness := (true, "3e51fe55f05ec39cab5d16d650b03885bed8c7699d1b635998c6db6ddc82101d"), looks := false }, kinds := [], alts := [], laidByText := true, laidKinds := [.data, .pinned], laidTests := true, laidLooks := .later }
def FoldWholeUptoCardSaid : Prop := Claim7.holds Tryd.pinned (.plain (OpenSpec.upto foldWholeSpec)) foldWholeUptoCard

/-- THE SECOND FORM's CARD OF 'lecternlaw05.FoldLower'. -/
def foldLowerUptoCard : Claim7 := { stood := { row := foldLowerUptoRow, standIns := [], harness := (true, "3e51fe55f05ec39cab5d16d650b03885bed8c7699d1b635998c6db6ddc82101d"), looks := false }, kinds := [], alts := [], laidByText := true, laidKinds := [.data, .pinned], laidTests := true, laidLooks := .later }
def FoldLowerUptoCardSaid : Prop := Claim7.holds Tryd.pinned (.plain (OpenSpec.upto foldLowerSpec)) foldLowerUptoCard

/-- THE SECOND FORM's CARD OF 'lecternlaw05.FoldBack'. -/
def foldBackUptoCard : Claim7 := { stood := { row := foldBackUptoRow, standIns := [], harness := (true, "3e51fe55f05ec39cab5d16d650b03885bed8c7699d1b635998c6db6ddc82101d"), looks := false }, kinds := [], alts := [], laidByText := true, laidKinds := [.data, .pinned], laidTests := true, laidLooks := .later }
def FoldBackUptoCardSaid : Prop := Claim7.holds Tryd.pinned (.plain (OpenSpec.upto foldBackSpec)) foldBackUptoCard
end Rows
end Go.Proofs.YtdgmgedecnbmdaaDoor
