/-
  NARROWER THAN 'FOR EVERY INPUT', by the rows' own cells (each row's printed sentence says how): AnalysisLinks: laid · AnalysisRuns: laid · AnalysisPlaces: laid · AnalysisChain: laid · AnalysisParts: laid · AnalysisOwn: laid.
  DERIVED. THE GIVEN ROWS OF THIS SEAT. 6 by the template 'for every input the law returns true; each argument reads behind the call as it read before'; 0 by the template 'total and deterministic' (their statements: YtfbedonphhiolaaDoorTotals.lean).
  GIVEN WITH THE SEED: the statements are not yours to turn. If you find one false, say at which input.
  Laid BY PROGRAM, IN A SANDBOX (cutbox-rows.mjs): the forced cells as the released guide's own fill.sh prints them over the translation 7f9c2e7036fd4edc… (all of the seat's roots in one cut). By AI agents, Wed Nov 11 2026. No macro, syntax, notation, axiom, sorry.
-/
import Derived.Test.YtfbedonphhiolaaDoorChecked
import GoSem.PinnedTables
import GoSem.Claim
import GoSem.ClaimJoined
import GoSem.ClaimMapViews
import Derived.JoinedTies
import Derived.KernelRfl
namespace Go.Proofs.YtfbedonphhiolaaDoor
/- THE CELL 'sum', in the pinned program and in every row, IS THE sha256 OF THE DUMP (.gsa) THAT YtfbedonphhiolaaDoorProg.lean LOADS. Nothing in Lean hashes anything: it is a label: what it is worth is what the hold of that sum in a sandbox is worth. -/
noncomputable def Tryd.pinned : Pinned := { name := "ytfbedonphhiolaadoor", sum := "7f9c2e7036fd4edcb9ca0773cdad069bf7f52b1d05515b640a254cbb4495e8b9", checked := Tryd.checked }
namespace Rows
def none {H : Type} : Left H := { results := [], args := [] }

/- WHAT THE LISTED PACKAGE-LEVEL VARIABLES READ AS WHEN THE CALL BEGINS. Each datum BY PROGRAM (the guide's laid-datum.mjs) off the statement by which the dump's own 'gosem.cut.vars' lays the variable. In a bare row this is a premise. The card (YtfbedonphhiolaaDoorCards.lean) ties it to the program's text. -/
def laid_unicode_utf8_acceptRanges {H : Type} : DataW H := .agg [.agg [.lit (.int .u8 128), .lit (.int .u8 191)], .agg [.lit (.int .u8 160), .lit (.int .u8 191)], .agg [.lit (.int .u8 128), .lit (.int .u8 159)], .agg [.lit (.int .u8 144), .lit (.int .u8 191)], .agg [.lit (.int .u8 128), .lit (.int .u8 143)], .agg [.lit (.int .u8 0), .lit (.int .u8 0)], .agg [.lit (.int .u8 0), .lit (.int .u8 0)], .agg [.lit (.int .u8 0), .lit (.int .u8 0)], .agg [.lit (.int .u8 0), .lit (.int .u8 0)], .agg [.lit (.int .u8 0), .lit (.int .u8 0)], .agg [.lit (.int .u8 0), .lit (.int .u8 0)], .agg [.lit (.int .u8 0), .lit (.int .u8 0)], .agg [.lit (.int .u8 0), .lit (.int .u8 0)], .agg [.lit (.int .u8 0), .lit (.int .u8 0)], .agg [.lit (.int .u8 0), .lit (.int .u8 0)], .agg [.lit (.int .u8 0), .lit (.int .u8 0)]]
/-- One of Go's own tables, pinned by name: the form's constant. -/
def laid_unicode_utf8_first : DataW Unit := Go.Pinned.utf8First

/-- 'lecternlaw06.AnalysisLinks': WHATEVER THE INPUT: true; the input reads as it did. -/
def analysisLinksSpec : ChangeSpec := { name := "analysisLinks", fn := fun _ => fun
  | [d1, d2, d3, d4] => { results := [.lit (.bool true)], args := [d1, d2, d3, d4] }
  | _ => none }
def analysisLinksRow : OpenClaim := { program := "ytfbedonphhiolaadoor", sum := "7f9c2e7036fd4edcb9ca0773cdad069bf7f52b1d05515b640a254cbb4495e8b9", func := "lectern/lecternlaw06.AnalysisLinks", spec := "analysisLinks", inPlace := ["internal/abi.NoEscape"], unfollowed := true, recurses := true, named := ["unicode/utf8.first", "unicode/utf8.acceptRanges"], apart := false, laid := [("unicode/utf8.acceptRanges", laid_unicode_utf8_acceptRanges), ("unicode/utf8.first", laid_unicode_utf8_first)] }
def AnalysisLinksSaid : Prop := analysisLinksRow.holds Tryd.pinned (OpenSpec.ofChange analysisLinksSpec)

/-- ITS FALSE NEIGHBOUR: 'it returns false'. Refute it at one input. -/
def analysisLinksWrong : ChangeSpec := { name := "analysisLinks", fn := fun _ => fun
  | [d1, d2, d3, d4] => { results := [.lit (.bool false)], args := [d1, d2, d3, d4] }
  | _ => none }
def AnalysisLinksWrongFalsely : Prop := analysisLinksRow.holds Tryd.pinned (OpenSpec.ofChange analysisLinksWrong)

/-- 'lecternlaw06.AnalysisRuns': WHATEVER THE INPUT: true; the input reads as it did. -/
def analysisRunsSpec : ChangeSpec := { name := "analysisRuns", fn := fun _ => fun
  | [d1, d2] => { results := [.lit (.bool true)], args := [d1, d2] }
  | _ => none }
def analysisRunsRow : OpenClaim := { program := "ytfbedonphhiolaadoor", sum := "7f9c2e7036fd4edcb9ca0773cdad069bf7f52b1d05515b640a254cbb4495e8b9", func := "lectern/lecternlaw06.AnalysisRuns", spec := "analysisRuns", inPlace := ["internal/abi.NoEscape"], unfollowed := true, recurses := true, named := ["unicode/utf8.first", "unicode/utf8.acceptRanges"], apart := false, laid := [("unicode/utf8.acceptRanges", laid_unicode_utf8_acceptRanges), ("unicode/utf8.first", laid_unicode_utf8_first)] }
def AnalysisRunsSaid : Prop := analysisRunsRow.holds Tryd.pinned (OpenSpec.ofChange analysisRunsSpec)

/-- ITS FALSE NEIGHBOUR: 'it returns false'. Refute it at one input. -/
def analysisRunsWrong : ChangeSpec := { name := "analysisRuns", fn := fun _ => fun
  | [d1, d2] => { results := [.lit (.bool false)], args := [d1, d2] }
  | _ => none }
def AnalysisRunsWrongFalsely : Prop := analysisRunsRow.holds Tryd.pinned (OpenSpec.ofChange analysisRunsWrong)

/-- 'lecternlaw06.AnalysisPlaces': WHATEVER THE INPUT: true; the input reads as it did. -/
def analysisPlacesSpec : ChangeSpec := { name := "analysisPlaces", fn := fun _ => fun
  | [d1, d2] => { results := [.lit (.bool true)], args := [d1, d2] }
  | _ => none }
def analysisPlacesRow : OpenClaim := { program := "ytfbedonphhiolaadoor", sum := "7f9c2e7036fd4edcb9ca0773cdad069bf7f52b1d05515b640a254cbb4495e8b9", func := "lectern/lecternlaw06.AnalysisPlaces", spec := "analysisPlaces", inPlace := ["internal/abi.NoEscape"], unfollowed := true, recurses := true, named := ["unicode/utf8.first", "unicode/utf8.acceptRanges"], apart := false, laid := [("unicode/utf8.acceptRanges", laid_unicode_utf8_acceptRanges), ("unicode/utf8.first", laid_unicode_utf8_first)] }
def AnalysisPlacesSaid : Prop := analysisPlacesRow.holds Tryd.pinned (OpenSpec.ofChange analysisPlacesSpec)

/-- ITS FALSE NEIGHBOUR: 'it returns false'. Refute it at one input. -/
def analysisPlacesWrong : ChangeSpec := { name := "analysisPlaces", fn := fun _ => fun
  | [d1, d2] => { results := [.lit (.bool false)], args := [d1, d2] }
  | _ => none }
def AnalysisPlacesWrongFalsely : Prop := analysisPlacesRow.holds Tryd.pinned (OpenSpec.ofChange analysisPlacesWrong)

/-- 'lecternlaw06.AnalysisChain': WHATEVER THE INPUT: true; the input reads as it did. -/
def analysisChainSpec : ChangeSpec := { name := "analysisChain", fn := fun _ => fun
  | [d1, d2] => { results := [.lit (.bool true)], args := [d1, d2] }
  | _ => none }
def analysisChainRow : OpenClaim := { program := "ytfbedonphhiolaadoor", sum := "7f9c2e7036fd4edcb9ca0773cdad069bf7f52b1d05515b640a254cbb4495e8b9", func := "lectern/lecternlaw06.AnalysisChain", spec := "analysisChain", inPlace := ["internal/abi.NoEscape"], unfollowed := true, recurses := true, named := ["unicode/utf8.first", "unicode/utf8.acceptRanges"], apart := false, laid := [("unicode/utf8.acceptRanges", laid_unicode_utf8_acceptRanges), ("unicode/utf8.first", laid_unicode_utf8_first)] }
def AnalysisChainSaid : Prop := analysisChainRow.holds Tryd.pinned (OpenSpec.ofChange analysisChainSpec)

/-- ITS FALSE NEIGHBOUR: 'it returns false'. Refute it at one input. -/
def analysisChainWrong : ChangeSpec := { name := "analysisChain", fn := fun _ => fun
  | [d1, d2] => { results := [.lit (.bool false)], args := [d1, d2] }
  | _ => none }
def AnalysisChainWrongFalsely : Prop := analysisChainRow.holds Tryd.pinned (OpenSpec.ofChange analysisChainWrong)

/-- 'lecternlaw06.AnalysisParts': WHATEVER THE INPUT: true; the input reads as it did. -/
def analysisPartsSpec : ChangeSpec := { name := "analysisParts", fn := fun _ => fun
  | [d1, d2] => { results := [.lit (.bool true)], args := [d1, d2] }
  | _ => none }
def analysisPartsRow : OpenClaim := { program := "ytfbedonphhiolaadoor", sum := "7f9c2e7036fd4edcb9ca0773cdad069bf7f52b1d05515b640a254cbb4495e8b9", func := "lectern/lecternlaw06.AnalysisParts", spec := "analysisParts", inPlace := ["internal/abi.NoEscape"], unfollowed := true, recurses := true, named := ["unicode/utf8.first", "unicode/utf8.acceptRanges"], apart := false, laid := [("unicode/utf8.acceptRanges", laid_unicode_utf8_acceptRanges), ("unicode/utf8.first", laid_unicode_utf8_first)] }
def AnalysisPartsSaid : Prop := analysisPartsRow.holds Tryd.pinned (OpenSpec.ofChange analysisPartsSpec)

/-- ITS FALSE NEIGHBOUR: 'it returns false'. Refute it at one input. -/
def analysisPartsWrong : ChangeSpec := { name := "analysisParts", fn := fun _ => fun
  | [d1, d2] => { results := [.lit (.bool false)], args := [d1, d2] }
  | _ => none }
def AnalysisPartsWrongFalsely : Prop := analysisPartsRow.holds Tryd.pinned (OpenSpec.ofChange analysisPartsWrong)

/-- 'lecternlaw06.AnalysisOwn': WHATEVER THE INPUT: true; the input reads as it did. -/
def analysisOwnSpec : ChangeSpec := { name := "analysisOwn", fn := fun _ => fun
  | [d1, d2] => { results := [.lit (.bool true)], args := [d1, d2] }
  | _ => none }
def analysisOwnRow : OpenClaim := { program := "ytfbedonphhiolaadoor", sum := "7f9c2e7036fd4edcb9ca0773cdad069bf7f52b1d05515b640a254cbb4495e8b9", func := "lectern/lecternlaw06.AnalysisOwn", spec := "analysisOwn", inPlace := ["internal/abi.NoEscape"], unfollowed := true, recurses := true, named := ["unicode/utf8.first", "unicode/utf8.acceptRanges"], apart := false, laid := [("unicode/utf8.acceptRanges", laid_unicode_utf8_acceptRanges), ("unicode/utf8.first", laid_unicode_utf8_first)] }
def AnalysisOwnSaid : Prop := analysisOwnRow.holds Tryd.pinned (OpenSpec.ofChange analysisOwnSpec)

/-- ITS FALSE NEIGHBOUR: 'it returns false'. Refute it at one input. -/
def analysisOwnWrong : ChangeSpec := { name := "analysisOwn", fn := fun _ => fun
  | [d1, d2] => { results := [.lit (.bool false)], args := [d1, d2] }
  | _ => none }
def AnalysisOwnWrongFalsely : Prop := analysisOwnRow.holds Tryd.pinned (OpenSpec.ofChange analysisOwnWrong)

/- THE SECOND FORM. 'bulk': how many values and letters a reading holds, each counted each time it is reached (what is shared counts as often as it is met; a slice's spare places count too). A statement '..UptoSaid' is the law's where the arguments, and the package variables that the reading takes, are together of bulk at most 1048576: NARROWER than '..Said'. Prove '..Said' where nothing that the law and all that it calls make is longer than what came in: it says more and counts as full. Else prove '..UptoSaid'. A law counts once. -/
mutual
def uptoBulk {H : Type} : DataW H → Nat
  | .lit (.string bytes) => bytes.length + 1
  | .lit _ => 1
  | .nil => 1
  | .ptr d => uptoBulk d + 1
  | .slice elems spare => uptoBulkAll elems + uptoBulkAll spare + 1
  | .agg parts => uptoBulkAll parts + 1
  | .iface _ d => uptoBulk d + 1
  | .map entries => uptoBulkEntries entries + 1
  | .held _ => 1
def uptoBulkAll {H : Type} : List (DataW H) → Nat
  | [] => 0
  | d :: r => uptoBulk d + uptoBulkAll r
def uptoBulkEntries {H : Type} : List (Lit × DataW H) → Nat
  | [] => 0
  | x :: r => uptoBulkEntry x + uptoBulkEntries r
def uptoBulkEntry {H : Type} : Lit × DataW H → Nat
  | (.string bytes, d) => bytes.length + uptoBulk d + 1
  | (_, d) => uptoBulk d + 1
 end
def uptoSmall : (H : Type) → List (DataW H) → Bool := fun _ ds => decide (uptoBulkAll ds ≤ 1048576)
def OpenSpec.upto (s : _root_.Go.ChangeSpec) : _root_.Go.OpenSpec := { _root_.Go.OpenSpec.ofChange s with cond := some uptoSmall }

/-- 'lecternlaw06.AnalysisLinks', WHERE WHAT IT READS IS OF BULK AT MOST 1048576: true; the input reads as it did. -/
def analysisLinksUptoRow : OpenClaim := { program := "ytfbedonphhiolaadoor", sum := "7f9c2e7036fd4edcb9ca0773cdad069bf7f52b1d05515b640a254cbb4495e8b9", func := "lectern/lecternlaw06.AnalysisLinks", spec := "analysisLinks", inPlace := ["internal/abi.NoEscape"], unfollowed := true, recurses := true, named := ["unicode/utf8.first", "unicode/utf8.acceptRanges"], apart := false, laid := [("unicode/utf8.acceptRanges", laid_unicode_utf8_acceptRanges), ("unicode/utf8.first", laid_unicode_utf8_first)], narrowed := true }
def AnalysisLinksUptoSaid : Prop := analysisLinksUptoRow.holds Tryd.pinned (OpenSpec.upto analysisLinksSpec)

/-- 'lecternlaw06.AnalysisRuns', WHERE WHAT IT READS IS OF BULK AT MOST 1048576: true; the input reads as it did. -/
def analysisRunsUptoRow : OpenClaim := { program := "ytfbedonphhiolaadoor", sum := "7f9c2e7036fd4edcb9ca0773cdad069bf7f52b1d05515b640a254cbb4495e8b9", func := "lectern/lecternlaw06.AnalysisRuns", spec := "analysisRuns", inPlace := ["internal/abi.NoEscape"], unfollowed := true, recurses := true, named := ["unicode/utf8.first", "unicode/utf8.acceptRanges"], apart := false, laid := [("unicode/utf8.acceptRanges", laid_unicode_utf8_acceptRanges), ("unicode/utf8.first", laid_unicode_utf8_first)], narrowed := true }
def AnalysisRunsUptoSaid : Prop := analysisRunsUptoRow.holds Tryd.pinned (OpenSpec.upto analysisRunsSpec)

/-- 'lecternlaw06.AnalysisPlaces', WHERE WHAT IT READS IS OF BULK AT MOST 1048576: true; the input reads as it did. -/
def analysisPlacesUptoRow : OpenClaim := { program := "ytfbedonphhiolaadoor", sum := "7f9c2e7036fd4edcb9ca0773cdad069bf7f52b1d05515b640a254cbb4495e8b9", func := "lectern/lecternlaw06.AnalysisPlaces", spec := "analysisPlaces", inPlace := ["internal/abi.NoEscape"], unfollowed := true, recurses := true, named := ["unicode/utf8.first", "unicode/utf8.acceptRanges"], apart := false, laid := [("unicode/utf8.acceptRanges", laid_unicode_utf8_acceptRanges), ("unicode/utf8.first", laid_unicode_utf8_first)], narrowed := true }
def AnalysisPlacesUptoSaid : Prop := analysisPlacesUptoRow.holds Tryd.pinned (OpenSpec.upto analysisPlacesSpec)

/-- 'lecternlaw06.AnalysisChain', WHERE WHAT IT READS IS OF BULK AT MOST 1048576: true; the input reads as it did. -/
def analysisChainUptoRow : OpenClaim := { program := "ytfbedonphhiolaadoor", sum := "7f9c2e7036fd4edcb9ca0773cdad069bf7f52b1d05515b640a254cbb4495e8b9", func := "lectern/lecternlaw06.AnalysisChain", spec := "analysisChain", inPlace := ["internal/abi.NoEscape"], unfollowed := true, recurses := true, named := ["unicode/utf8.first", "unicode/utf8.acceptRanges"], apart := false, laid := [("unicode/utf8.acceptRanges", laid_unicode_utf8_acceptRanges), ("unicode/utf8.first", laid_unicode_utf8_first)], narrowed := true }
def AnalysisChainUptoSaid : Prop := analysisChainUptoRow.holds Tryd.pinned (OpenSpec.upto analysisChainSpec)

/-- 'lecternlaw06.AnalysisParts', WHERE WHAT IT READS IS OF BULK AT MOST 1048576: true; the input reads as it did. -/
def analysisPartsUptoRow : OpenClaim := { program := "ytfbedonphhiolaadoor", sum := "7f9c2e7036fd4edcb9ca0773cdad069bf7f52b1d05515b640a254cbb4495e8b9", func := "lectern/lecternlaw06.AnalysisParts", spec := "analysisParts", inPlace := ["internal/abi.NoEscape"], unfollowed := true, recurses := true, named := ["unicode/utf8.first", "unicode/utf8.acceptRanges"], apart := false, laid := [("unicode/utf8.acceptRanges", laid_unicode_utf8_acceptRanges), ("unicode/utf8.first", laid_unicode_utf8_first)], narrowed := true }
def AnalysisPartsUptoSaid : Prop := analysisPartsUptoRow.holds Tryd.pinned (OpenSpec.upto analysisPartsSpec)

/-- 'lecternlaw06.AnalysisOwn', WHERE WHAT IT READS IS OF BULK AT MOST 1048576: true; the input reads as it did. -/
def analysisOwnUptoRow : OpenClaim := { program := "ytfbedonphhiolaadoor", sum := "7f9c2e7036fd4edcb9ca0773cdad069bf7f52b1d05515b640a254cbb4495e8b9", func := "lectern/lecternlaw06.AnalysisOwn", spec := "analysisOwn", inPlace := ["internal/abi.NoEscape"], unfollowed := true, recurses := true, named := ["unicode/utf8.first", "unicode/utf8.acceptRanges"], apart := false, laid := [("unicode/utf8.acceptRanges", laid_unicode_utf8_acceptRanges), ("unicode/utf8.first", laid_unicode_utf8_first)], narrowed := true }
def AnalysisOwnUptoSaid : Prop := analysisOwnUptoRow.holds Tryd.pinned (OpenSpec.upto analysisOwnSpec)

end Rows
end Go.Proofs.YtfbedonphhiolaaDoor
