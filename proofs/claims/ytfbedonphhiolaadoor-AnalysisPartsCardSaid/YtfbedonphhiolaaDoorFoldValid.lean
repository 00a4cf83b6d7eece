/- Contracts: 'Valid' of the program and of the document's answer. -/
import Derived.Test.YtfbedonphhiolaaDoorFoldRefNext
import Derived.Test.YtfbedonphhiolaaDoorFoldRunesP
namespace Go.Proofs.YtfbedonphhiolaaDoor.FoldValid
open Go.RowKit Go.Lib FoldP FoldInts Kit FoldForms FoldNext

def BoolBelow (b : Bool) (w : World) (e : Ending) (w' : World) : Prop := e = .returned (.bool b) ∧ Below w.heap.size w w'
def PairBelow (r n : Nat) (w : World) (e : Ending) (w' : World) : Prop := e = .returned (.tuple #[.int .i32 (r : Int), .int .i64 (n : Int)]) ∧ Below w.heap.size w w'

theorem refNext_at (s : ByteArray) (k : Nat) (w : World) (hs : s.size ≤ 9223372036854775807) (h : k < s.size) (rr nn : Nat) (hd : decodeL (s.data.toList.drop k) = (rr, nn)) :
    Calls Tryd.prog 54 #[.string s, .int .i64 k] w (PairBelow rr nn w) := by
  refine (refNext_any s k w (by unfold maxLen; omega)).mono ?_
  rintro e w' ⟨rfl, hb⟩
  rw [next_in _ k (by simpa using h), hd]
  exact ⟨rfl, hb⟩
theorem next_at (s : ByteArray) (k : Nat) (w : World) (hs : s.size ≤ 9223372036854775807) (hT : Tabs w) (h : k < s.size) (rr nn : Nat) (hd : decodeL (s.data.toList.drop k) = (rr, nn)) :
    Calls Tryd.prog 50 #[.string s, .int .i64 k] w (PairBelow rr nn w) := by
  refine (next_any s k w (by unfold maxLen; omega) hT).mono ?_
  rintro e w' ⟨rfl, hb⟩
  rw [next_in _ k (by simpa using h), hd]
  exact ⟨rfl, hb⟩

end Go.Proofs.YtfbedonphhiolaaDoor.FoldValid
