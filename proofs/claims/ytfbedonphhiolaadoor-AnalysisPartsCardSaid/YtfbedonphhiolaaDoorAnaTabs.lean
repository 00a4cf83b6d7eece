/- A world that holds the tables holds two blocks. -/
import Derived.Test.YtfbedonphhiolaaDoorFoldNext
namespace Go.Proofs.YtfbedonphhiolaaDoor.Ana
open Go.RowKit Go.Lib FoldNext
theorem tabs_size {w : World} (h : Lib.Utf8Tabs 0 1 w) : 2 ≤ w.heap.size := by
  have h1 := (h.2 0 (by omega)).1
  have := World.block_lt_of_cell? w _ h1
  have h2 := h.1 0 (by omega)
  have := World.block_lt_of_cell? w _ h2
  dsimp only at *
  omega
end Go.Proofs.YtfbedonphhiolaaDoor.Ana
