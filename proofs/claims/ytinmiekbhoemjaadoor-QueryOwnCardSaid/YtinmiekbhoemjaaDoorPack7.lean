/- Rows of structs as trees: their elements in memory, their marks, and a row that is lent (built anew, element by element, with a mark behind it). Over any program. Rows of structs that a call gathers, element by element, their parts beside them: in a variable of its own or in a box. Over any program. What a call keeps: all that lay there but some blocks. Over any program. Which texts may be names of fields, in plain Lean. Which queries are formed, how deep they are, and how they are written, in plain Lean. -/
import Derived.Test.YtinmiekbhoemjaaDoorPack6
import Derived.Test.YtinmiekbhoemjaaDoorPack4
import Derived.RangeFuncBox
import Derived.RangeFuncFrom
import Derived.Test.YtinmiekbhoemjaaDoorPack2
section
set_option linter.unusedVariables false
namespace Go.Proofs.YtinmiekbhoemjaaDoor.Tree
open Go.RowKit Go.WideShapes Go.ChangeShapes Words Owned

section
variable {sent : Nat → List (List Value)} {w : World} {S : Nat → Prop} {X : Type} {f : X → List T} {s : Nat}
/-! ### A row that is lent -/
end

section
variable {P : Program}
end
end Go.Proofs.YtinmiekbhoemjaaDoor.Tree
end
section
set_option linter.unusedVariables false
namespace Go.Proofs.YtinmiekbhoemjaaDoor.Tree
open Go.RowKit Go.WideShapes Go.ChangeShapes Words Owned

/-- A block of cells. -/
def CellsAt (w : World) (g : Nat) : Prop := ∃ c t fz, w.heap[g]? = some (.cells c t fz)
theorem CellsAt.lt {w : World} {g : Nat} (h : CellsAt w g) : g < w.heap.size := by obtain ⟨c, t, fz, h⟩ := h; exact (Array.getElem?_eq_some_iff.1 h).1
theorem CellsAt.of {w w' : World} {g : Nat} (h : CellsAt w g) (e : w'.heap[g]? = w.heap[g]?) : CellsAt w' g := by obtain ⟨c, t, fz, h⟩ := h; exact ⟨c, t, fz, e.trans h⟩
theorem CellsAt.below {w w' : World} {g B : Nat} (h : CellsAt w g) (hb : Below B w w') (hg : g < B) : CellsAt w' g := h.of (hb.block g hg)
theorem CellsAt.grown {w w' : World} {g : Nat} {row : Option Nat} (h : CellsAt w g) (hg : w.grownBy w' row) (hne : some g ≠ row) : CellsAt w' g := h.of (hg.block g h.lt hne)
theorem CellsAt.set {w : World} {g : Nat} (h : CellsAt w g) (p : Addr) (u : Value) : CellsAt (w.setCell p u) g := by
  obtain ⟨c, t, fz, h⟩ := h
  by_cases e : p.block = g
  · subst e
    cases hsp : p.spot.isSome with
    | true => exact ⟨c, t, fz, by simp [World.setCell, Array.getElem?_modify, h, hsp]⟩
    | false => exact ⟨c.setIfInBounds p.off u, t, fz, by simp [World.setCell, Array.getElem?_modify, h, hsp]⟩
  · exact ⟨c, t, fz, (Below.heap_setCell w p u g (fun e' => e e'.symm)).trans h⟩

section
variable {sent : Nat → List (List Value)} {X : Type} {f : X → List T} {s : Nat} {et : TypeId} {box : Option Nat} {N : Nat}

end
end Go.Proofs.YtinmiekbhoemjaaDoor.Tree
end
section
set_option linter.unusedVariables false
namespace Go.Proofs.YtinmiekbhoemjaaDoor.Tree
open Go.RowKit Go.WideShapes Go.ChangeShapes Words Owned

/-- All is kept but the blocks of N; memory may have grown. -/
structure But (N : Nat → Prop) (w w' : World) : Prop where
  os : w'.os = w.os
  tape : w'.tape = w.tape
  output : w'.output = w.output
  size : w.heap.size ≤ w'.heap.size
  block : ∀ g, g < w.heap.size → ¬ N g → w'.heap[g]? = w.heap[g]?
section
variable {N N' : Nat → Prop} {w w' w'' : World}
theorem But.of_below (h : Below w.heap.size w w') : But N w w' := ⟨h.os, h.tape, h.output, h.size, fun g hg _ => h.block g hg⟩
theorem But.refl (N : Nat → Prop) (w : World) : But N w w := But.of_below (Below.refl _ _)
theorem But.trans (h : But N w w') (k : But N w' w'') : But N w w'' := ⟨k.os.trans h.os, k.tape.trans h.tape, k.output.trans h.output, Nat.le_trans h.size k.size, fun g hg hn => (k.block g (Nat.lt_of_lt_of_le hg h.size) hn).trans (h.block g hg hn)⟩
theorem But.mono (h : But N w w') (hN : ∀ g, N g → N' g) : But N' w w' := ⟨h.os, h.tape, h.output, h.size, fun g hg hn => h.block g hg fun hg' => hn (hN g hg')⟩
theorem But.below {B : Nat} (h : But N w w') (hB : B ≤ w.heap.size) (hN : ∀ g, g < B → ¬ N g) : Below B w w' := ⟨h.os, h.tape, h.output, h.size, fun g hg => h.block g (by omega) (hN g hg)⟩
theorem But.grown {row : Option Nat} (h : w.grownBy w' row) (hr : ∀ r, row = some r → N r) : But N w w' := ⟨h.os, h.tape, h.output, h.size, fun g hg hn => h.block g hg (fun e => hn (hr g e.symm))⟩
theorem But.alloc (h : But N w w') (o : Obj) : But N w (w'.alloc o) := h.trans (But.of_below ((Below.refl _ _).alloc (Nat.le_refl _) _))
theorem But.set (h : But N w w') {p : Addr} (hp : N p.block ∨ w.heap.size ≤ p.block) (u : Value) : But N w (w'.setCell p u) :=
  ⟨h.os, h.tape, h.output, by simpa [World.setCell] using h.size, fun g hg hn => (Below.heap_setCell w' p u g (by rintro rfl; rcases hp with hp | hp; exact hn hp; omega)).trans (h.block g hg hn)⟩
/-- Blocks made meanwhile may be written. -/
theorem But.more (h : But N w w') (k : But N' w' w'') (hN : ∀ g, N' g → N g ∨ w.heap.size ≤ g) : But N w w'' :=
  ⟨k.os.trans h.os, k.tape.trans h.tape, k.output.trans h.output, Nat.le_trans h.size k.size, fun g hg hn => (k.block g (Nat.lt_of_lt_of_le hg h.size) (fun h' => (hN g h').elim hn (fun h'' => by omega))).trans (h.block g hg hn)⟩
theorem But.blk {g : Nat} {t : TypeId} {cs : Array Value} (h : But N w w') (hb : Blk w g t cs) (hn : ¬ N g) : Blk w' g t cs := (h.block g hb.lt hn).trans hb
theorem But.cell (h : But N w w') {p : Addr} (hp : p.block < w.heap.size) (hn : ¬ N p.block) : w'.cell? p = w.cell? p := World.cell?_of_block (h.block p.block hp hn)
end
end Go.Proofs.YtinmiekbhoemjaaDoor.Tree
end
section
namespace SchP

/-- A byte that may stand at a place of a name. -/
def byteB (i : Nat) (c : UInt8) : Bool := decide (97 ≤ c.toNat ∧ c.toNat ≤ 122) || decide (c.toNat = 95) || (decide (0 < i) && decide (48 ≤ c.toNat ∧ c.toNat ≤ 57))
def bytesB : Nat → List UInt8 → Bool
  | _, [] => true
  | i, c :: l => byteB i c && bytesB (i + 1) l
def nameB (s : ByteArray) : Bool := bytesB 0 s.data.toList && decide (1 ≤ s.size) && decide (s.size ≤ 24)
theorem bytesB_step {l : List UInt8} {k : Nat} (h : k < l.length) : bytesB k (l.drop k) = (byteB k l[k] && bytesB (k + 1) (l.drop (k + 1))) := by
  rw [List.drop_eq_getElem_cons h, bytesB]
end SchP
end
section
namespace QryP
open SchP

def kd : QT → Int | .mk k _ _ _ _ _ _ _ _ _ => k
def oc : QT → Int | .mk _ o _ _ _ _ _ _ _ _ => o
def fd : QT → ByteArray | .mk _ _ f _ _ _ _ _ _ _ => f
def tx : QT → ByteArray | .mk _ _ _ t _ _ _ _ _ _ => t
def up : QT → ByteArray | .mk _ _ _ _ u _ _ _ _ _ => u
def lo : QT → List Int | .mk _ _ _ _ _ l _ _ _ _ => l
def hi : QT → List Int | .mk _ _ _ _ _ _ h _ _ _ => h
def bo : QT → Int | .mk _ _ _ _ _ _ _ b _ _ => b
def op : QT → Int | .mk _ _ _ _ _ _ _ _ o _ => o
def kids : QT → List QT | .mk _ _ _ _ _ _ _ _ _ k => k

/-- A part's own fields. -/
def ownB (q : QT) (under : Int) : Bool :=
  (if under = 8 then decide (1 ≤ oc q ∧ oc q ≤ 4) else decide (oc q = 0)) && decide (1 ≤ kd q ∧ kd q ≤ 10)
  && (if 3 ≤ kd q ∧ kd q ≤ 7 ∨ kd q = 10 then nameB (fd q) else decide ((fd q).size = 0))
  && (decide (3 ≤ kd q ∧ kd q ≤ 6) || decide ((tx q).size = 0)) && (decide (kd q = 6) || decide ((up q).size = 0))
  && (if kd q = 7 then decide (1 ≤ (lo q).length ∧ (lo q).length ≤ 4 ∧ (hi q).length = (lo q).length) else if kd q = 10 then decide ((lo q).length = 1 ∧ (hi q).length = 0) else decide ((lo q).length = 0 ∧ (hi q).length = 0))
  && (if kd q = 9 then decide (0 ≤ bo q ∧ bo q ≤ 1048576) else decide (bo q = 0))
  && (if kd q = 10 then decide (1 ≤ op q ∧ op q ≤ 3) else decide (op q = 0))
  && (if kd q = 9 ∨ kd q = 10 then decide ((kids q).length = 1) else decide (kd q = 8) || decide ((kids q).length = 0))

mutual
def formedB (under : Int) : QT → Bool
  | .mk k o f t u l h b p ks => ownB (.mk k o f t u l h b p ks) under && formedL k ks
def formedL (under : Int) : List QT → Bool
  | [] => true
  | q :: qs => formedB under q && formedL under qs
end
mutual
def depthF : QT → Nat
  | .mk _ _ _ _ _ _ _ _ _ ks => depthL ks + 1
def depthL : List QT → Nat
  | [] => 0
  | q :: qs => max (depthF q) (depthL qs)
end
theorem formedB_eq (under : Int) (q : QT) : formedB under q = (ownB q under && formedL (kd q) (kids q)) := by cases q; rw [formedB]; rfl
theorem depthF_eq (q : QT) : depthF q = depthL (kids q) + 1 := by cases q; rw [depthF]; rfl
theorem formedL_step {u : Int} {ks : List QT} {k : Nat} (h : k < ks.length) : formedL u (ks.drop k) = (formedB u ks[k] && formedL u (ks.drop (k + 1))) := by rw [List.drop_eq_getElem_cons h, formedL]
theorem depthL_snoc : ∀ (l : List QT) (q : QT), depthL (l ++ [q]) = max (depthL l) (depthF q)
  | [], q => by simp [depthL]
  | a :: l, q => by rw [List.cons_append, depthL, depthL_snoc l q, depthL]; omega

/-! ### How a query is written -/
def hexD (n : Nat) : UInt8 := if n < 10 then UInt8.ofNat (48 + n) else UInt8.ofNat (55 + n)
def quoteC (c : UInt8) : List UInt8 := if c = 34 ∨ c = 92 then [92, c] else if c.toNat < 32 ∨ 127 ≤ c.toNat then [92, 120, hexD (c.toNat / 16), hexD (c.toNat % 16)] else [c]
def quoteF (s : ByteArray) : List UInt8 := 34 :: (s.data.toList.flatMap quoteC ++ [34])
def wordF : Int → List UInt8
  | 1 => "all".toUTF8.data.toList
  | 2 => "none".toUTF8.data.toList
  | 3 => "term".toUTF8.data.toList
  | 4 => "phrase".toUTF8.data.toList
  | 5 => "prefix".toUTF8.data.toList
  | 6 => "terms".toUTF8.data.toList
  | 7 => "range".toUTF8.data.toList
  | 8 => "bool".toUTF8.data.toList
  | 9 => "boost".toUTF8.data.toList
  | 10 => "weigh".toUTF8.data.toList
  | _ => []
def opF : Int → List UInt8
  | 1 => "add".toUTF8.data.toList
  | 2 => "mul".toUTF8.data.toList
  | 3 => "max".toUTF8.data.toList
  | _ => []
def markF : Int → List UInt8
  | 1 => [43]
  | 2 => [63]
  | 3 => [45]
  | 4 => [61]
  | _ => []
/-- Pieces with something between. -/
def joinF (sep : List UInt8) : List (List UInt8) → List UInt8
  | [] => []
  | [a] => a
  | a :: b :: l => a ++ sep ++ joinF sep (b :: l)
theorem joinF_snoc (sep : List UInt8) : ∀ (l : List (List UInt8)) (x : List UInt8), joinF sep (l ++ [x]) = (if l = [] then x else joinF sep l ++ sep ++ x)
  | [], x => rfl
  | [a], x => by simp [joinF]
  | a :: b :: l, x => by
    rw [List.cons_append, List.cons_append, joinF, ← List.cons_append, joinF_snoc sep (b :: l) x]
    simp [joinF, List.append_assoc]
section
variable (num : Int → List UInt8)
def numsF (l : List Int) : List UInt8 := joinF [32] (l.map num)
/-- A part's own pieces, ahead of its kids'. -/
def piecesF (q : QT) : List (List UInt8) :=
  if kd q = 3 ∨ kd q = 4 ∨ kd q = 5 then [(fd q).data.toList, quoteF (tx q)]
  else if kd q = 6 then [(fd q).data.toList, quoteF (tx q), quoteF (up q)]
  else if kd q = 7 then [(fd q).data.toList, numsF num (lo q), numsF num (hi q)]
  else if kd q = 9 then [num (bo q)]
  else if kd q = 10 then [opF (op q), (fd q).data.toList, numsF num (lo q)]
  else []
mutual
def writeF : QT → List UInt8
  | .mk k o f t u l h b p ks => if k = 1 ∨ k = 2 then wordF k else wordF k ++ 40 :: (joinF [44, 32] (piecesF num (.mk k o f t u l h b p ks) ++ writeL ks) ++ [41])
def writeL : List QT → List (List UInt8)
  | [] => []
  | q :: qs => (markF (oc q) ++ writeF q) :: writeL qs
end
theorem writeF_eq (q : QT) : writeF num q = if kd q = 1 ∨ kd q = 2 then wordF (kd q) else wordF (kd q) ++ 40 :: (joinF [44, 32] (piecesF num q ++ writeL num (kids q)) ++ [41]) := by cases q; rw [writeF]; rfl
theorem writeL_eq : ∀ l : List QT, writeL num l = l.map fun q => markF (oc q) ++ writeF num q
  | [] => by simp [writeL]
  | q :: l => by rw [writeL, writeL_eq l]; rfl
def textQ (q : QT) : List UInt8 := if formedB 0 q then writeF num q else []
end
end QryP
end
