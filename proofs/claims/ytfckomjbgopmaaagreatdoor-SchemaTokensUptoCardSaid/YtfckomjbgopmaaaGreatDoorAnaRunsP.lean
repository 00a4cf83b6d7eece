/- The invariant of the loop that cuts a text into runs. -/
import Derived.Test.YtfckomjbgopmaaaGreatDoorAnaEnd
import Derived.Test.YtfckomjbgopmaaaGreatDoorPack37
import Derived.Test.YtfckomjbgopmaaaGreatDoorPack29
set_option linter.unusedVariables false
namespace Go.Proofs.YtfckomjbgopmaaaGreatDoor.Ana
open Go.RowKit Go.Lib FoldP FoldInts Kit FoldForms FoldNext FoldIter AnaP Words Owned Tree Range

def frV (l : List UInt8) : Option Nat → Int
  | none => -1
  | some a => (posAt l a : Int)
theorem Blk.nc {A B : World} {g : Nat} {t : TypeId} {cs : Array Value} {row : Option Nat} (h : Blk A g t cs) (hg : A.grownBy B row) (hr : ∀ r, row = some r → ∃ o : Obj, A.heap[r]? = some o ∧ o.isCells = false) : Blk B g t cs :=
  h.grown hg (fun e => by obtain ⟨o, ho, hc⟩ := hr g e.symm; rw [show A.heap[g]? = _ from h] at ho; cases ho; cases hc)

/-- What holds when the runes pre have come up: the cuts so far, where a run has begun; the boxes from block h on. -/
structure RunI (may begins : Int → Bool) (s : ByteArray) (mv bv : Value) (w : World) (R : List (Nat × Nat)) (cuts : List (Nat × Nat)) (fr : Option Nat) (j : Nat) (W : World) : Prop where
  len : cuts.length ≤ j
  from_ : ∀ a, fr = some a → a < j
  all : cuts ++ runIx may begins ((runeL s.data.toList).drop j) j fr = R
  out : ∃ v, Boxed W (w.heap.size + 3) 38 v ∧ W.ownsRow w.heap.size 59 4 v (tokOf s cuts).length (tokCells (tokOf s cuts))
  frm : Boxed W (w.heap.size + 4) 3 (.int .i64 (frV s.data.toList fr))
  txt : Boxed W w.heap.size 9 (.string s)
  mayB : Blk W (w.heap.size + 1) 139 #[mv]
  begB : Blk W (w.heap.size + 2) 139 #[bv]
  endB : Blk W (w.heap.size + 5) 126 #[.func (.func 121) #[] #[.pointer (some ⟨w.heap.size + 4, 0, none⟩), .pointer (some ⟨w.heap.size + 3, 0, none⟩), .pointer (some ⟨w.heap.size, 0, none⟩)]]
  iter : Blk W (w.heap.size + 6) 9 #[.string s]
  below : Below w.heap.size w W
def RunI2 (may begins : Int → Bool) (s : ByteArray) (mv bv : Value) (w : World) (R : List (Nat × Nat)) (pre : List (Nat × Int)) (W : World) : Prop := ∃ cuts fr, RunI may begins s mv bv w R cuts fr pre.length W
theorem runI_own (may begins : Int → Bool) (s : ByteArray) (mv bv : Value) (w : World) (R : List (Nat × Nat)) (B : Nat) (hB : w.heap.size ≤ B) : OwnFrom B (RunI2 may begins s mv bv w R) := by
  rintro pre A W row ⟨cuts, fr, h⟩ hg hr
  have hr2 : ∀ r, row = some r → ∃ o : Obj, A.heap[r]? = some o ∧ o.isCells = false := fun r e => (hr r e).2
  obtain ⟨v, h1, h2⟩ := h.out
  exact ⟨cuts, fr, h.len, h.from_, h.all, ⟨v, Blk.nc h1 hg hr2, own_cells_kept h2 hg (fun r e => by obtain ⟨o, ho, hc⟩ := hr2 r e; exact ⟨o, ho, not_cells hc⟩)⟩,
    Blk.nc h.frm hg hr2, Blk.nc h.txt hg hr2, Blk.nc h.mayB hg hr2, Blk.nc h.begB hg hr2, Blk.nc h.endB hg hr2, Blk.nc h.iter hg hr2, h.below.grown hg h.below.size (fun k e => by have := (hr k e).1; omega)⟩
/-- A round that has called 'end'. -/
theorem RunI.ended {may begins : Int → Bool} {s : ByteArray} {mv bv : Value} {w : World} {R cuts cuts' : List (Nat × Nat)} {fr : Option Nat} {j j' : Nat} {W W' : World} (h : RunI may begins s mv bv w R cuts fr j W) (he : EndW w.heap.size (w.heap.size + 4) (w.heap.size + 3) (tokOf s cuts') W W')
    (hl : cuts'.length ≤ j') (ha : cuts' ++ runIx may begins ((runeL s.data.toList).drop j') j' none = R) : RunI may begins s mv bv w R cuts' none j' W' := by
  obtain ⟨v, h1, h2⟩ := he.out
  refine ⟨hl, (fun a e => by cases e), ha, ⟨v, h1, h2⟩, he.frm, he.cells _ _ _ h.txt (by decide) (by omega) (by omega), he.cells _ _ _ h.mayB (by decide) (by omega) (by omega), he.cells _ _ _ h.begB (by decide) (by omega) (by omega),
    he.cells _ _ _ h.endB (by decide) (by omega) (by omega), he.cells _ _ _ h.iter (by decide) (by omega) (by omega), h.below.trans he.below⟩
/-- A round that has not touched memory. -/
theorem RunI.stays {may begins : Int → Bool} {s : ByteArray} {mv bv : Value} {w : World} {R cuts : List (Nat × Nat)} {fr : Option Nat} {j : Nat} {W : World} (h : RunI may begins s mv bv w R cuts fr j W)
    (ha : cuts ++ runIx may begins ((runeL s.data.toList).drop (j + 1)) (j + 1) fr = R) : RunI may begins s mv bv w R cuts fr (j + 1) W :=
  ⟨Nat.le_succ_of_le h.len, fun a e => Nat.lt_succ_of_lt (h.from_ a e), ha, h.out, h.frm, h.txt, h.mayB, h.begB, h.endB, h.iter, h.below⟩
/-- A round that begins a run. -/
theorem RunI.begun {may begins : Int → Bool} {s : ByteArray} {mv bv : Value} {w : World} {R cuts : List (Nat × Nat)} {fr : Option Nat} {j : Nat} {W : World} (h : RunI may begins s mv bv w R cuts fr j W)
    (ha : cuts ++ runIx may begins ((runeL s.data.toList).drop (j + 1)) (j + 1) (some j) = R) : RunI may begins s mv bv w R cuts (some j) (j + 1) (W.setCell ⟨w.heap.size + 4, 0, none⟩ (.int .i64 (posAt s.data.toList j : Int))) := by
  obtain ⟨v, h1, h2⟩ := h.out
  refine ⟨Nat.le_succ_of_le h.len, (fun a e => by cases e; omega), ha, ⟨v, h1.other (by omega) _, h2.kept (row := some (w.heap.size + 4)) (grownBy_setCell' W _ _) (.inr (h.frm.not_row (by decide) h2).symm)⟩, h.frm.set _, h.txt.other (by omega) _,
    h.mayB.far (p := ⟨w.heap.size + 4, 0, none⟩) (by dsimp only; omega) _, h.begB.far (p := ⟨w.heap.size + 4, 0, none⟩) (by dsimp only; omega) _, h.endB.far (p := ⟨w.heap.size + 4, 0, none⟩) (by dsimp only; omega) _, h.iter.far (p := ⟨w.heap.size + 4, 0, none⟩) (by dsimp only; omega) _, h.below.setCell (p := ⟨w.heap.size + 4, 0, none⟩) (by dsimp only; omega) _⟩
theorem runI_start {may begins : Int → Bool} {s : ByteArray} {mv bv : Value} {w : World} {R : List (Nat × Nat)} (hR : runIx may begins (runeL s.data.toList) 0 none = R) :
    RunI may begins s mv bv w R [] none 0 (((((((w.alloc (.cells #[.string s] 9)).alloc (.cells #[mv] 139)).alloc (.cells #[bv] 139)).alloc (.cells #[.slice none 0 0] 38)).alloc (.cells #[.int .i64 (-1)] 3)).alloc
      (.cells #[.func (.func 121) #[] #[.pointer (some ⟨w.heap.size + 4, 0, none⟩), .pointer (some ⟨w.heap.size + 3, 0, none⟩), .pointer (some ⟨w.heap.size, 0, none⟩)]] 126)).alloc (.cells #[.string s] 9)) := by
  have hb : ∀ (X : World) (n : Nat) (t : TypeId) (cs : Array Value), X.heap.size = n → Blk (X.alloc (.cells cs t)) n t cs := fun X n t cs h => by subst h; exact Blk.new X t cs
  refine ⟨Nat.le_refl _, (fun a e => by cases e), hR, ⟨.slice none 0 0, ?_, World.ownsRow_nil _ _ _ _⟩, ?_, ?_, ?_, ?_, ?_, ?_, ?_⟩
  · exact (((hb _ _ _ _ (by simp)).alloc _).alloc _).alloc _
  · exact ((hb _ _ _ _ (by simp)).alloc _).alloc _
  · exact ((((((hb _ _ _ _ (by simp)).alloc _).alloc _).alloc _).alloc _).alloc _).alloc _
  · exact (((((hb _ _ _ _ (by simp)).alloc _).alloc _).alloc _).alloc _).alloc _
  · exact ((((hb _ _ _ _ (by simp)).alloc _).alloc _).alloc _).alloc _
  · exact (hb _ _ _ _ (by simp)).alloc _
  · exact hb _ _ _ _ (by simp)
  · exact (((((((Below.refl _ _).alloc (Nat.le_refl _) _).alloc (by simp) _).alloc (by simp; omega) _).alloc (by simp; omega) _).alloc (by simp; omega) _).alloc (by simp; omega) _).alloc (by simp; omega) _
/-- What the iterator keeps. -/
theorem RunI.kp {may begins : Int → Bool} {s : ByteArray} {mv bv : Value} {w : World} {R cuts cuts' : List (Nat × Nat)} {fr fr' : Option Nat} {j j' : Nat} {W W' : World} (h : RunI may begins s mv bv w R cuts fr j W) (h' : RunI may begins s mv bv w R cuts' fr' j' W') (hb : Below w.heap.size W W') (h2 : 8 ≤ w.heap.size) : KpR (w.heap.size + 6) W W' :=
  ⟨hb.mono h2, Eq.trans h'.iter h.iter.symm⟩
theorem tok_snoc {s : ByteArray} {cuts : List (Nat × Nat)} {a j p : Nat} (hp : p = posAt s.data.toList j) : tokOf s cuts ++ [(⟨s.extract (posAt s.data.toList a) p, (tokOf s cuts).length, posAt s.data.toList a, p⟩ : TokD)] = tokOf s (cuts ++ [(a, j)]) := by
  subst hp; rw [tokOf_snoc, tokOf_len]; rfl
end Go.Proofs.YtfckomjbgopmaaaGreatDoor.Ana
