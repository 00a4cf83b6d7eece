/- The walk of the law FoldTexts. -/
import Derived.Test.YtdgmgedecnbmdaaDoorFoldFold
namespace Go.Proofs.YtdgmgedecnbmdaaDoor.FoldLaws
open Go.RowKit Go.Lib FoldP FoldInts Kit FoldForms FoldNext FoldIter FoldValid FoldRefFold FoldFold

def TrueBelow (w : World) (e : Ending) (w' : World) : Prop := e = .returned (.bool true) ∧ Below w.heap.size w w'
/-- A world that holds the tables holds two blocks. -/
theorem tabs_size {w : World} (h : Lib.Utf8Tabs 0 1 w) : 2 ≤ w.heap.size := by
  have h1 := (h.2 0 (by omega)).1
  have := World.block_lt_of_cell? w _ h1
  have h2 := h.1 0 (by omega)
  have := World.block_lt_of_cell? w _ h2
  dsimp only at *
  omega

theorem fold_any (s : ByteArray) (w : World) (hs : s.size ≤ 17592186044416) (hT : Tabs w) :
    Calls Tryd.prog 15 #[.string s] w (StrBelow (foldL s.data.toList) w) := callsIn_wide.1 (fold_in s w hs hT)

theorem foldTexts_walk (s : ByteArray) (w : World) (hs : s.size ≤ 1048576) (hT : Tabs w) :
    Calls Tryd.prog 4 #[.string s] w (TrueBelow w) := by
  have HT := Lib.hid hT; clear hT
  go_enter Tryd.func4, Tryd.ntmps4
  go_wp2_with fail
  refine (fold_any s w (by omega) HT.out).mono ?_
  rintro e w1 ⟨rfl, hb1⟩
  have HB1 := Lib.hid hb1; clear hb1
  go_wp2_with fail
  refine (refFold_any s w1 (by omega)).mono ?_
  rintro e w2 ⟨rfl, hb2⟩
  have HB2 := Lib.hid hb2; clear hb2
  go_wp2_with fail
  go_ret
  exact ⟨by simp, HB1.out.trans (HB2.out.mono HB1.out.size)⟩
end Go.Proofs.YtdgmgedecnbmdaaDoor.FoldLaws
