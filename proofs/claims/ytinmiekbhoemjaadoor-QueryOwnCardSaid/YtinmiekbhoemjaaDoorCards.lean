/-
  DERIVED. GIVEN WITH THE SEED: THE CARDS: each row of YtinmiekbhoemjaaDoorRows.lean that lists a variable, with what it lists TIED to the program's text (the seventh form; the later family's looks); each row that meets fmt, with fmt's text TOLD by the authors' own Lean function (tested against real Go, not proved from fmt's source: count such statements apart). THE CARD IS WHAT COUNTS. Prove the row's statement (the work); the ties are given (YtinmiekbhoemjaaDoorTie.lean); close each card by the builder's one call (the guide's Derived/Test/ToyasCard.lean, 'card_holds'). Laid BY PROGRAM, IN A SANDBOX (cutbox-door.mjs). By AI agents, Wed Nov 11 2026. No macro, syntax, notation, axiom, sorry.
-/
import Derived.Test.YtinmiekbhoemjaaDoorRows
import GoSem.ClaimSeven
namespace Go.Proofs.YtinmiekbhoemjaaDoor
namespace Rows

/-- THE TIED CARD OF 'lecternlaw18.QueryForms'. -/
def queryFormsCard : Claim7 := { stood := { row := queryFormsRow, standIns := [], harness := (true, "375d1aad99a12f97e3a4dd008b960c671e1e264135aaf676398bf1f099045954"), looks := true }, kinds := [], alts := [], laidByText := true, laidKinds := [.data, .data, .data], laidTests := true, laidLooks := .later }
def QueryFormsCardSaid : Prop := Claim7.holds Tryd.pinned (.plain (OpenSpec.ofChange queryFormsSpec)) queryFormsCard

/-- THE TIED CARD OF 'lecternlaw18.QueryBack'. -/
def queryBackCard : Claim7 := { stood := { row := queryBackRow, standIns := [], harness := (true, "375d1aad99a12f97e3a4dd008b960c671e1e264135aaf676398bf1f099045954"), looks := true }, kinds := [], alts := [], laidByText := true, laidKinds := [.data, .data, .data, .sentinel, .sentinel], laidTests := true, laidLooks := .later }
def QueryBackCardSaid : Prop := Claim7.holds Tryd.pinned (.plain (OpenSpec.ofChange queryBackSpec)) queryBackCard

/-- THE TIED CARD OF 'lecternlaw18.QueryRead'. -/
def queryReadCard : Claim7 := { stood := { row := queryReadRow, standIns := [], harness := (true, "375d1aad99a12f97e3a4dd008b960c671e1e264135aaf676398bf1f099045954"), looks := true }, kinds := [], alts := [], laidByText := true, laidKinds := [.data, .data, .data, .sentinel, .sentinel], laidTests := true, laidLooks := .later }
def QueryReadCardSaid : Prop := Claim7.holds Tryd.pinned (.plain (OpenSpec.ofChange queryReadSpec)) queryReadCard

/-- THE TIED CARD OF 'lecternlaw18.QueryBlanks'. -/
def queryBlanksCard : Claim7 := { stood := { row := queryBlanksRow, standIns := [], harness := (true, "375d1aad99a12f97e3a4dd008b960c671e1e264135aaf676398bf1f099045954"), looks := true }, kinds := [], alts := [], laidByText := true, laidKinds := [.data, .data, .data, .sentinel, .sentinel], laidTests := true, laidLooks := .later }
def QueryBlanksCardSaid : Prop := Claim7.holds Tryd.pinned (.plain (OpenSpec.ofChange queryBlanksSpec)) queryBlanksCard

/-- THE TIED CARD OF 'lecternlaw18.QueryOwn'. -/
def queryOwnCard : Claim7 := { stood := { row := queryOwnRow, standIns := [], harness := (true, "375d1aad99a12f97e3a4dd008b960c671e1e264135aaf676398bf1f099045954"), looks := true }, kinds := [], alts := [], laidByText := true, laidKinds := [.data, .data, .data, .sentinel, .sentinel], laidTests := true, laidLooks := .later }
def QueryOwnCardSaid : Prop := Claim7.holds Tryd.pinned (.plain (OpenSpec.ofChange queryOwnSpec)) queryOwnCard

/-- THE SECOND FORM's CARD OF 'lecternlaw18.QueryForms'. -/
def queryFormsUptoCard : Claim7 := { stood := { row := queryFormsUptoRow, standIns := [], harness := (true, "375d1aad99a12f97e3a4dd008b960c671e1e264135aaf676398bf1f099045954"), looks := true }, kinds := [], alts := [], laidByText := true, laidKinds := [.data, .data, .data], laidTests := true, laidLooks := .later }
def QueryFormsUptoCardSaid : Prop := Claim7.holds Tryd.pinned (.plain (OpenSpec.upto queryFormsSpec)) queryFormsUptoCard

/-- THE SECOND FORM's CARD OF 'lecternlaw18.QueryBack'. -/
def queryBackUptoCard : Claim7 := { stood := { row := queryBackUptoRow, standIns := [], harness := (true, "375d1aad99a12f97e3a4dd008b960c671e1e264135aaf676398bf1f099045954"), looks := true }, kinds := [], alts := [], laidByText := true, laidKinds := [.data, .data, .data, .sentinel, .sentinel], laidTests := true, laidLooks := .later }
def QueryBackUptoCardSaid : Prop := Claim7.holds Tryd.pinned (.plain (OpenSpec.upto queryBackSpec)) queryBackUptoCard

/-- THE SECOND FORM's CARD OF 'lecternlaw18.QueryRead'. -/
def queryReadUptoCard : Claim7 := { stood := { row := queryReadUptoRow, standIns := [], harness := (true, "375d1aad99a12f97e3a4dd008b960c671e1e264135aaf676398bf1f099045954"), looks := true }, kinds := [], alts := [], laidByText := true, laidKinds := [.data, .data, .data, .sentinel, .sentinel], laidTests := true, laidLooks := .later }
def QueryReadUptoCardSaid : Prop := Claim7.holds Tryd.pinned (.plain (OpenSpec.upto queryReadSpec)) queryReadUptoCard

/-- THE SECOND FORM's CARD OF 'lecternlaw18.QueryBlanks'. -/
def queryBlanksUptoCard : Claim7 := { stood := { row := queryBlanksUptoRow, standIns := [], harness := (true, "375d1aad99a12f97e3a4dd008b960c671e1e264135aaf676398bf1f099045954"), looks := true }, kinds := [], alts := [], laidByText := true, laidKinds := [.data, .data, .data, .sentinel, .sentinel], laidTests := true, laidLooks := .later }
def QueryBlanksUptoCardSaid : Prop := Claim7.holds Tryd.pinned (.plain (OpenSpec.upto queryBlanksSpec)) queryBlanksUptoCard

/-- THE SECOND FORM's CARD OF 'lecternlaw18.QueryOwn'. -/
def queryOwnUptoCard : Claim7 := { stood := { row := queryOwnUptoRow, standIns := [], harness := (true, "375d1aad99a12f97e3a4dd008b960c671e1e264135aaf676398bf1f099045954"), looks := true }, kinds := [], alts := [], laidByText := true, laidKinds := [.data, .data, .data, .sentinel, .sentinel], laidTests := true, laidLooks := .later }
def QueryOwnUptoCardSaid : Prop := Claim7.holds Tryd.pinned (.plain (OpenSpec.upto queryOwnSpec)) queryOwnUptoCard
end Rows
end Go.Proofs.YtinmiekbhoemjaaDoor
