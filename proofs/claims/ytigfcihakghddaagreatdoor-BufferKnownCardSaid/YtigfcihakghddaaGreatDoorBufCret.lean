/- Lemmas that the last text leans on. -/
import Derived.Test.YtigfcihakghddaaGreatDoorSchCellsW
set_option linter.all false
namespace Go.Proofs.YtigfcihakghddaaGreatDoor.BufT
open Go Go.RowKit Words Tree Owned Sch SchP AnaP Kit
def CellsRetS (r:Except Int (List CT)) (w:World) (e:Ending) (w':World):Prop:=Below w.heap.size w w'∧match r with
 | .error n=>e = .returned (.tuple #[.slice none 0 0,.int .i64 n])
 | .ok cs=>∃A c,e = .returned (.tuple #[.slice A cs.length c,.int .i64 0])∧T.At bare w' (fun g=>w.heap.size≤g∧CellsAt w' g) (cellsT cs) (.slice A cs.length c)
theorem cells_ret {r:Except Int (List CT)} {w w':World} {e:Ending} (h:CellsRet r w e w'):CellsRetS r w e w':=by
 refine ⟨h.1,?_⟩;have h2:=h.2
 cases r with
 | error n=>exact h2
 | ok cs=>
  obtain ⟨v,he,ht⟩:=h2;obtain ⟨A,c,rfl,_⟩:=at_row ccells_len ht;exact ⟨A,c,he,ht⟩
end Go.Proofs.YtigfcihakghddaaGreatDoor.BufT
