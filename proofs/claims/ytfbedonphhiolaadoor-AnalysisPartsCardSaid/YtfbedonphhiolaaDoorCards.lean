/-
  DERIVED. GIVEN WITH THE SEED: THE CARDS: each row of YtfbedonphhiolaaDoorRows.lean that lists a variable, with what it lists TIED to the program's text (the seventh form; the later family's looks); each row that meets fmt, with fmt's text TOLD by the authors' own Lean function (tested against real Go, not proved from fmt's source: count such statements apart). THE CARD IS WHAT COUNTS. Prove the row's statement (the work); the ties are given (YtfbedonphhiolaaDoorTie.lean); close each card by the builder's one call (the guide's Derived/Test/ToyasCard.lean, 'card_holds'). Laid BY PROGRAM, IN A SANDBOX (cutbox-door.mjs). By AI agents, Wed Nov 11 2026. No macro, syntax, notation, axiom, sorry.
-/
import Derived.Test.YtfbedonphhiolaaDoorRows
import GoSem.ClaimSeven
namespace Go.Proofs.YtfbedonphhiolaaDoor
namespace Rows

/-- THE TIED CARD OF 'lecternlaw06.AnalysisLinks'. -/
def analysisLinksCard : Claim7 := { stood := { row := analysisLinksRow, standIns := [], harness := (true, "f27b125eb8936520a8213136219b04449e4bfc2dfdc8adf5b944e15c142e43cb"), looks := false }, kinds := [], alts := [], laidByText := true, laidKinds := [.data, .pinned], laidTests := true, laidLooks := .later }
def AnalysisLinksCardSaid : Prop := Claim7.holds Tryd.pinned (.plain (OpenSpec.ofChange analysisLinksSpec)) analysisLinksCard

/-- THE TIED CARD OF 'lecternlaw06.AnalysisRuns'. -/
def analysisRunsCard : Claim7 := { stood := { row := analysisRunsRow, standIns := [], harness := (true, "f27b125eb8936520a8213136219b04449e4bfc2dfdc8adf5b944e15c142e43cb"), looks := false }, kinds := [], alts := [], laidByText := true, laidKinds := [.data, .pinned], laidTests := true, laidLooks := .later }
def AnalysisRunsCardSaid : Prop := Claim7.holds Tryd.pinned (.plain (OpenSpec.ofChange analysisRunsSpec)) analysisRunsCard

/-- THE TIED CARD OF 'lecternlaw06.AnalysisPlaces'. -/
def analysisPlacesCard : Claim7 := { stood := { row := analysisPlacesRow, standIns := [], harness := (true, "f27b125eb8936520a8213136219b04449e4bfc2dfdc8adf5b944e15c142e43cb"), looks := false }, kinds := [], alts := [], laidByText := true, laidKinds := [.data, .pinned], laidTests := true, laidLooks := .later }
def AnalysisPlacesCardSaid : Prop := Claim7.holds Tryd.pinned (.plain (OpenSpec.ofChange analysisPlacesSpec)) analysisPlacesCard

/-- THE TIED CARD OF 'lecternlaw06.AnalysisChain'. -/
def analysisChainCard : Claim7 := { stood := { row := analysisChainRow, standIns := [], harness := (true, "f27b125eb8936520a8213136219b04449e4bfc2dfdc8adf5b944e15c142e43cb"), looks := false }, kinds := [], alts := [], laidByText := true, laidKinds := [.data, .pinned], laidTests := true, laidLooks := .later }
def AnalysisChainCardSaid : Prop := Claim7.holds Tryd.pinned (.plain (OpenSpec.ofChange analysisChainSpec)) analysisChainCard

/-- THE TIED CARD OF 'lecternlaw06.AnalysisParts'. -/
def analysisPartsCard : Claim7 := { stood := { row := analysisPartsRow, standIns := [], harness := (true, "f27b125eb8936520a8213136219b04449e4bfc2dfdc8adf5b944e15c142e43cb"), looks := false }, kinds := [], alts := [], laidByText := true, laidKinds := [.data, .pinned], laidTests := true, laidLooks := .later }
def AnalysisPartsCardSaid : Prop := Claim7.holds Tryd.pinned (.plain (OpenSpec.ofChange analysisPartsSpec)) analysisPartsCard

/-- THE TIED CARD OF 'lecternlaw06.AnalysisOwn'. -/
def analysisOwnCard : Claim7 := { stood := { row := analysisOwnRow, standIns := [], harness := (true, "f27b125eb8936520a8213136219b04449e4bfc2dfdc8adf5b944e15c142e43cb"), looks := false }, kinds := [], alts := [], laidByText := true, laidKinds := [.data, .pinned], laidTests := true, laidLooks := .later }
def AnalysisOwnCardSaid : Prop := Claim7.holds Tryd.pinned (.plain (OpenSpec.ofChange analysisOwnSpec)) analysisOwnCard

/-- THE SECOND FORM's CARD OF 'lecternlaw06.AnalysisLinks'. -/
def analysisLinksUptoCard : Claim7 := { stood := { row := analysisLinksUptoRow, standIns := [], harness := (true, "f27b125eb8936520a8213136219b04449e4bfc2dfdc8adf5b944e15c142e43cb"), looks := false }, kinds := [], alts := [], laidByText := true, laidKinds := [.data, .pinned], laidTests := true, laidLooks := .later }
def AnalysisLinksUptoCardSaid : Prop := Claim7.holds Tryd.pinned (.plain (OpenSpec.upto analysisLinksSpec)) analysisLinksUptoCard

/-- THE SECOND FORM's CARD OF 'lecternlaw06.AnalysisRuns'. -/
def analysisRunsUptoCard : Claim7 := { stood := { row := analysisRunsUptoRow, standIns := [], harness := (true, "f27b125eb8936520a8213136219b04449e4bfc2dfdc8adf5b944e15c142e43cb"), looks := false }, kinds := [], alts := [], laidByText := true, laidKinds := [.data, .pinned], laidTests := true, laidLooks := .later }
def AnalysisRunsUptoCardSaid : Prop := Claim7.holds Tryd.pinned (.plain (OpenSpec.upto analysisRunsSpec)) analysisRunsUptoCard

/-- THE SECOND FORM's CARD OF 'lecternlaw06.AnalysisPlaces'. -/
def analysisPlacesUptoCard : Claim7 := { stood := { row := analysisPlacesUptoRow, standIns := [], harness := (true, "f27b125eb8936520a8213136219b04449e4bfc2dfdc8adf5b944e15c142e43cb"), looks := false }, kinds := [], alts := [], laidByText := true, laidKinds := [.data, .pinned], laidTests := true, laidLooks := .later }
def AnalysisPlacesUptoCardSaid : Prop := Claim7.holds Tryd.pinned (.plain (OpenSpec.upto analysisPlacesSpec)) analysisPlacesUptoCard

/-- THE SECOND FORM's CARD OF 'lecternlaw06.AnalysisChain'. -/
def analysisChainUptoCard : Claim7 := { stood := { row := analysisChainUptoRow, standIns := [], harness := (true, "f27b125eb8936520a8213136219b04449e4bfc2dfdc8adf5b944e15c142e43cb"), looks := false }, kinds := [], alts := [], laidByText := true, laidKinds := [.data, .pinned], laidTests := true, laidLooks := .later }
def AnalysisChainUptoCardSaid : Prop := Claim7.holds Tryd.pinned (.plain (OpenSpec.upto analysisChainSpec)) analysisChainUptoCard

/-- THE SECOND FORM's CARD OF 'lecternlaw06.AnalysisParts'. -/
def analysisPartsUptoCard : Claim7 := { stood := { row := analysisPartsUptoRow, standIns := [], harness := (true, "f27b125eb8936520a8213136219b04449e4bfc2dfdc8adf5b944e15c142e43cb"), looks := false }, kinds := [], alts := [], laidByText := true, laidKinds := [.data, .pinned], laidTests := true, laidLooks := .later }
def AnalysisPartsUptoCardSaid : Prop := Claim7.holds Tryd.pinned (.plain (OpenSpec.upto analysisPartsSpec)) analysisPartsUptoCard

/-- THE SECOND FORM's CARD OF 'lecternlaw06.AnalysisOwn'. -/
def analysisOwnUptoCard : Claim7 := { stood := { row := analysisOwnUptoRow, standIns := [], harness := (true, "f27b125eb8936520a8213136219b04449e4bfc2dfdc8adf5b944e15c142e43cb"), looks := false }, kinds := [], alts := [], laidByText := true, laidKinds := [.data, .pinned], laidTests := true, laidLooks := .later }
def AnalysisOwnUptoCardSaid : Prop := Claim7.holds Tryd.pinned (.plain (OpenSpec.upto analysisOwnSpec)) analysisOwnUptoCard
end Rows
end Go.Proofs.YtfbedonphhiolaaDoor
