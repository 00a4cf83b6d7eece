/- Contracts of the document's answers for letters, digits, marks and lower case. -/
import Derived.Test.YtfckomjbgopmaaaGreatDoorFoldInts
namespace Go.Proofs.YtfckomjbgopmaaaGreatDoor.FoldAmong
open Go.RowKit FoldP FoldInts Kit

/-- A bool is answered; new memory may have been made, nothing else has changed. -/
def BoolBelow (b : Bool) (w : World) (e : Ending) (w' : World) : Prop := e = .returned (.bool b) ∧ Below w.heap.size w w'

end Go.Proofs.YtfckomjbgopmaaaGreatDoor.FoldAmong
