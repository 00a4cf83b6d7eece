/- Contracts of the document's Letter, Digit and Mark. -/
import Derived.Test.YtfbedonphhiolaaDoorFoldAmong
namespace Go.Proofs.YtfbedonphhiolaaDoor.FoldAmong
open Go.RowKit FoldP FoldInts Kit

set_option maxHeartbeats 1000000 in
theorem refDigit_any (r : Int) (w : World) :
    Calls Tryd.prog 74 #[.int .i32 r] w (BoolBelow (digitF r) w) := by
  have hd := among_new r digits w 21 (by decide)
  have HD := Lib.hid hd; clear hd
  go_enter Tryd.func74, Tryd.ntmps74
  go_wp2_with fail
  refine HD.out.mono ?_
  rintro e w' ⟨rfl, rfl⟩
  go_wp2_with fail
  go_ret
  exact ⟨rfl, (Below.refl _ _).alloc (Nat.le_refl _) _⟩

set_option maxHeartbeats 1000000 in
theorem refLetter_any (r : Int) (w : World) :
    Calls Tryd.prog 73 #[.int .i32 r] w (BoolBelow (letterF r) w) := by
  have hd := among_new r letters w 21 (by decide)
  have HD := Lib.hid hd; clear hd
  go_enter Tryd.func73, Tryd.ntmps73
  go_wp2_with fail
  refine HD.out.mono ?_
  rintro e w' ⟨rfl, rfl⟩
  go_wp2_with fail
  go_ret
  exact ⟨rfl, (Below.refl _ _).alloc (Nat.le_refl _) _⟩

set_option maxHeartbeats 1000000 in
theorem refMark_any (r : Int) (w : World) :
    Calls Tryd.prog 39 #[.int .i32 r] w (BoolBelow (markF r) w) := by
  have hd := among_new r marks w 21 (by decide)
  have HD := Lib.hid hd; clear hd
  go_enter Tryd.func39, Tryd.ntmps39
  go_wp2_with fail
  refine HD.out.mono ?_
  rintro e w' ⟨rfl, rfl⟩
  go_wp2_with fail
  go_ret
  exact ⟨rfl, (Below.refl _ _).alloc (Nat.le_refl _) _⟩

end Go.Proofs.YtfbedonphhiolaaDoor.FoldAmong
