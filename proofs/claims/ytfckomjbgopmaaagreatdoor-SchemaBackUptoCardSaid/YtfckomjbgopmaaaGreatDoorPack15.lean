/- Contracts: which values are of a field's kind; 'unless'. Written by gen_kind.py. Rows of structs that a call gathers, element by element, their parts beside them: in a variable of its own or in a box. Over any program. -/
import Derived.Test.YtfckomjbgopmaaaGreatDoorSchMay
import Derived.Test.YtfckomjbgopmaaaGreatDoorPack4
import Derived.RangeFuncBox
import Derived.RangeFuncFrom
section
set_option linter.unusedVariables false
namespace Go.Proofs.YtfckomjbgopmaaaGreatDoor.Sch
open Go.RowKit Words Tree SchP Kit Owned AnaP

/-- What the program asks. -/
def kindP (f : FT) (text : ByteArray) (n : Nat) : Bool := if f.kind = 3 then decide (text.size = 0) && decide (n = 1) else if f.kind = 5 then decide (text.size = 0) && decide ((n : Int) = f.dims) else decide (n = 0)
theorem empty_ways (s : ByteArray) : (s.size = 0 ∧ s.toList.isEmpty = true) ∨ (s.size ≠ 0 ∧ s.toList.isEmpty = false) := by
  have h : s.toList.isEmpty = true ↔ s.size = 0 := by
    rw [ByteArray.toList_eq, List.isEmpty_iff]
    constructor
    · intro h
      have := congrArg List.length h
      simpa using this
    · intro h
      exact List.eq_nil_of_length_eq_zero (by simpa using h)
  cases hb : s.toList.isEmpty with
  | true => exact .inl ⟨h.1 hb, rfl⟩
  | false => exact .inr ⟨(fun e => by rw [h.2 e] at hb; cases hb), rfl⟩
theorem eqn_ways (n : Nat) (k : Int) : ((n : Int) = k ∧ ((n : Int) == k) = true) ∨ ((n : Int) ≠ k ∧ ((n : Int) == k) = false) := by
  by_cases h : (n : Int) = k
  · exact .inl ⟨h, by simpa using h⟩
  · exact .inr ⟨h, by simpa using h⟩

set_option maxRecDepth 100000 in
set_option maxHeartbeats 4000000 in
theorem kind_any (f : FT) (X : Value) (text : ByteArray) (A : Option Addr) (n c : Nat) (w : World) :
    Calls Tryz.prog 33 #[.agg #[.string f.name, .int .i64 f.kind, X, .int .i64 f.scale, .int .i64 f.dims, .bool f.many, .bool f.stored], .string text, .slice A n c] w (AnsB (kindP f text n) w) := by
  obtain ⟨r, hr⟩ : ∃ r, kindP f text n = r := ⟨_, rfl⟩
  have HR := Lib.hid hr
  rw [hr]
  clear hr
  obtain ⟨f0, f1, f2, f3, f4, f5, f6⟩ := f
  rcases kind_ways f1 with rfl | rfl | rfl | rfl | rfl | ⟨e1, e2, e3, e4, e5, n1, n4, n5, k1, k2, k3, k4, k5⟩
  · skip
    rcases eqn_ways n 0 with ⟨h1, h2⟩ | ⟨h1, h2⟩
    · have HT : Hid (r = true) := Lib.hid (by rw [← HR.out]; simp [kindP, *]; try omega)
      clear HR
      go_enter Tryz.func33, Tryz.ntmps33
      go_wp2_with fail
      go_ret
      rw [HT.out]; exact ⟨by simp [*], (Below.refl _ _).alloc (Nat.le_refl _) _⟩
    · have HT : Hid (r = false) := Lib.hid (by rw [← HR.out]; simp [kindP, *]; try omega)
      clear HR
      go_enter Tryz.func33, Tryz.ntmps33
      go_wp2_with fail
      go_ret
      rw [HT.out]; exact ⟨by simp [*], (Below.refl _ _).alloc (Nat.le_refl _) _⟩
  · skip
    rcases eqn_ways n 0 with ⟨h1, h2⟩ | ⟨h1, h2⟩
    · have HT : Hid (r = true) := Lib.hid (by rw [← HR.out]; simp [kindP, *]; try omega)
      clear HR
      go_enter Tryz.func33, Tryz.ntmps33
      go_wp2_with fail
      go_ret
      rw [HT.out]; exact ⟨by simp [*], (Below.refl _ _).alloc (Nat.le_refl _) _⟩
    · have HT : Hid (r = false) := Lib.hid (by rw [← HR.out]; simp [kindP, *]; try omega)
      clear HR
      go_enter Tryz.func33, Tryz.ntmps33
      go_wp2_with fail
      go_ret
      rw [HT.out]; exact ⟨by simp [*], (Below.refl _ _).alloc (Nat.le_refl _) _⟩
  · skip
    rcases empty_ways text with ⟨t0, t1⟩ | ⟨t0, t1⟩
    rotate_left
    · have HT : Hid (r = false) := Lib.hid (by rw [← HR.out]; simp [kindP, *]; try omega)
      clear HR
      go_enter Tryz.func33, Tryz.ntmps33
      go_wp2_with fail
      go_ret
      rw [HT.out]; exact ⟨by simp [*], (Below.refl _ _).alloc (Nat.le_refl _) _⟩
    rcases eqn_ways n 1 with ⟨h1, h2⟩ | ⟨h1, h2⟩
    · have HT : Hid (r = true) := Lib.hid (by rw [← HR.out]; simp [kindP, *]; try omega)
      clear HR
      go_enter Tryz.func33, Tryz.ntmps33
      go_wp2_with fail
      go_ret
      rw [HT.out]; exact ⟨by simp [*], (Below.refl _ _).alloc (Nat.le_refl _) _⟩
    · have HT : Hid (r = false) := Lib.hid (by rw [← HR.out]; simp [kindP, *]; try omega)
      clear HR
      go_enter Tryz.func33, Tryz.ntmps33
      go_wp2_with fail
      go_ret
      rw [HT.out]; exact ⟨by simp [*], (Below.refl _ _).alloc (Nat.le_refl _) _⟩
  · skip
    rcases eqn_ways n 0 with ⟨h1, h2⟩ | ⟨h1, h2⟩
    · have HT : Hid (r = true) := Lib.hid (by rw [← HR.out]; simp [kindP, *]; try omega)
      clear HR
      go_enter Tryz.func33, Tryz.ntmps33
      go_wp2_with fail
      go_ret
      rw [HT.out]; exact ⟨by simp [*], (Below.refl _ _).alloc (Nat.le_refl _) _⟩
    · have HT : Hid (r = false) := Lib.hid (by rw [← HR.out]; simp [kindP, *]; try omega)
      clear HR
      go_enter Tryz.func33, Tryz.ntmps33
      go_wp2_with fail
      go_ret
      rw [HT.out]; exact ⟨by simp [*], (Below.refl _ _).alloc (Nat.le_refl _) _⟩
  · skip
    rcases empty_ways text with ⟨t0, t1⟩ | ⟨t0, t1⟩
    rotate_left
    · have HT : Hid (r = false) := Lib.hid (by rw [← HR.out]; simp [kindP, *]; try omega)
      clear HR
      go_enter Tryz.func33, Tryz.ntmps33
      go_wp2_with fail
      go_ret
      rw [HT.out]; exact ⟨by simp [*], (Below.refl _ _).alloc (Nat.le_refl _) _⟩
    rcases eqn_ways n f4 with ⟨h1, h2⟩ | ⟨h1, h2⟩
    · have HT : Hid (r = true) := Lib.hid (by rw [← HR.out]; simp [kindP, *]; try omega)
      clear HR
      go_enter Tryz.func33, Tryz.ntmps33
      go_wp2_with fail
      go_ret
      rw [HT.out]; exact ⟨by simp [*], (Below.refl _ _).alloc (Nat.le_refl _) _⟩
    · have HT : Hid (r = false) := Lib.hid (by rw [← HR.out]; simp [kindP, *]; try omega)
      clear HR
      go_enter Tryz.func33, Tryz.ntmps33
      go_wp2_with fail
      go_ret
      rw [HT.out]; exact ⟨by simp [*], (Below.refl _ _).alloc (Nat.le_refl _) _⟩
  · skip
    rcases eqn_ways n 0 with ⟨h1, h2⟩ | ⟨h1, h2⟩
    · have HT : Hid (r = true) := Lib.hid (by rw [← HR.out]; simp [kindP, *]; try omega)
      clear HR
      go_enter Tryz.func33, Tryz.ntmps33
      go_wp2_with fail
      go_ret
      rw [HT.out]; exact ⟨by simp [*], (Below.refl _ _).alloc (Nat.le_refl _) _⟩
    · have HT : Hid (r = false) := Lib.hid (by rw [← HR.out]; simp [kindP, *]; try omega)
      clear HR
      go_enter Tryz.func33, Tryz.ntmps33
      go_wp2_with fail
      go_ret
      rw [HT.out]; exact ⟨by simp [*], (Below.refl _ _).alloc (Nat.le_refl _) _⟩

set_option maxRecDepth 100000 in
theorem unless_any (b : Bool) (n : Int) (w : World) : Calls Tryz.prog 45 #[.bool b, .int .i64 n] w (IntB (if b then 0 else n) w) := by
  cases b with
  | true =>
    go_enter Tryz.func45, Tryz.ntmps45
    go_wp2_with fail
    go_ret
    exact ⟨rfl, Below.refl _ _⟩
  | false =>
    go_enter Tryz.func45, Tryz.ntmps45
    go_wp2_with fail
    go_ret
    exact ⟨rfl, Below.refl _ _⟩
end Go.Proofs.YtfckomjbgopmaaaGreatDoor.Sch
end
section
set_option linter.unusedVariables false
namespace Go.Proofs.YtfckomjbgopmaaaGreatDoor.Tree
open Go.RowKit Go.WideShapes Go.ChangeShapes Words Owned

/-- A block of cells. -/
def CellsAt (w : World) (g : Nat) : Prop := ∃ c t fz, w.heap[g]? = some (.cells c t fz)
theorem CellsAt.lt {w : World} {g : Nat} (h : CellsAt w g) : g < w.heap.size := by obtain ⟨c, t, fz, h⟩ := h; exact (Array.getElem?_eq_some_iff.1 h).1
theorem CellsAt.of {w w' : World} {g : Nat} (h : CellsAt w g) (e : w'.heap[g]? = w.heap[g]?) : CellsAt w' g := by obtain ⟨c, t, fz, h⟩ := h; exact ⟨c, t, fz, e.trans h⟩
theorem CellsAt.below {w w' : World} {g B : Nat} (h : CellsAt w g) (hb : Below B w w') (hg : g < B) : CellsAt w' g := h.of (hb.block g hg)
theorem CellsAt.grown {w w' : World} {g : Nat} {row : Option Nat} (h : CellsAt w g) (hg : w.grownBy w' row) (hne : some g ≠ row) : CellsAt w' g := h.of (hg.block g h.lt hne)
theorem CellsAt.set {w : World} {g : Nat} (h : CellsAt w g) (p : Addr) (u : Value) : CellsAt (w.setCell p u) g := by
  obtain ⟨c, t, fz, h⟩ := h
  by_cases e : p.block = g
  · subst e
    cases hsp : p.spot.isSome with
    | true => exact ⟨c, t, fz, by simp [World.setCell, Array.getElem?_modify, h, hsp]⟩
    | false => exact ⟨c.setIfInBounds p.off u, t, fz, by simp [World.setCell, Array.getElem?_modify, h, hsp]⟩
  · exact ⟨c, t, fz, (Below.heap_setCell w p u g (fun e' => e e'.symm)).trans h⟩

section
variable {sent : Nat → List (List Value)} {X : Type} {f : X → List T} {s : Nat} {et : TypeId} {box : Option Nat} {N : Nat}

/-- The elements xs are gathered in a row of its own (from block N on), their parts beside it and beside the box. -/
def RowG (sent : Nat → List (List Value)) (et : TypeId) (s : Nat) (f : X → List T) (box : Option Nat) (N : Nat) (wr : World) (v : Value) (xs : List X) : Prop :=
  ∃ cs, wr.ownsRow N et s v xs.length cs ∧ T.AtL sent wr (fun g => N ≤ g ∧ CellsAt wr g ∧ v.ownBlock ≠ some g ∧ box ≠ some g) (xs.flatMap f) cs
theorem rowG_nil (W : World) : RowG sent et s f box N W (.slice none 0 0) [] := ⟨[], World.ownsRow_nil _ _ _ _, by simp [T.AtL]⟩
/-- The same, all of it below block m. -/
def RowM (sent : Nat → List (List Value)) (et : TypeId) (s : Nat) (f : X → List T) (box : Option Nat) (N m : Nat) (wr : World) (v : Value) (xs : List X) : Prop :=
  ∃ cs, wr.ownsRow N et s v xs.length cs ∧ (∀ r, v.ownBlock = some r → r < m) ∧ T.AtL sent wr (fun g => N ≤ g ∧ g < m ∧ CellsAt wr g ∧ v.ownBlock ≠ some g ∧ box ≠ some g) (xs.flatMap f) cs
theorem rowM_of {wr w' : World} {v : Value} {xs : List X} (h : RowG sent et s f box N wr v xs) (hb : Below wr.heap.size wr w') : RowM sent et s f box N wr.heap.size w' v xs := by
  obtain ⟨cs, ho, ha⟩ := h
  exact ⟨cs, own_below ho hb, fun r e => (ho.lt r e).2, AtL.keep (fun p hp => hb.cell hp.2.1.lt) (fun g hg => ⟨hg.1, hg.2.1.lt, hg.2.1.below hb hg.2.1.lt, hg.2.2⟩) ha⟩
theorem rowM_step {m : Nat} {wr w3 w4 : World} {v v' : Value} {xs : List X} {x : X} {us cs : List Value} (hN : N ≤ m) (hm : m ≤ wr.heap.size) (hbox : ∀ b, box = some b → b < m)
    (hlt : ∀ r, v.ownBlock = some r → r < m) (ha : T.AtL sent wr (fun g => N ≤ g ∧ g < m ∧ CellsAt wr g ∧ v.ownBlock ≠ some g ∧ box ≠ some g) (xs.flatMap f) cs)
    (hu : T.AtL sent w3 (fun g => m ≤ g ∧ CellsAt w3 g) (f x) us) (hb : Below m wr w3)
    (ho : w4.ownsRow N et s v' (xs.length + 1) (cs ++ us)) (hg : w3.grownBy w4 v.ownBlock) (hv : v'.ownBlock = v.ownBlock ∨ v'.ownBlock = some w3.heap.size) : RowG sent et s f box N w4 v' (xs ++ [x]) := by
  have hz3 := hb.size
  have hz4 := hg.size
  have hbl : ∀ p : Addr, p.block < w3.heap.size → v.ownBlock ≠ some p.block → w4.cell? p = w3.cell? p := fun p hp hne =>
    World.cell?_of_block (hg.block p.block hp (fun e => hne e.symm))
  refine ⟨cs ++ us, by simpa using ho, ?_⟩
  rw [List.flatMap_append, List.flatMap_singleton]
  refine AtL.append (AtL.keep (fun p hp => ?_) (fun g hg' => ?_) ha) (AtL.keep (fun p hp => ?_) (fun g hg' => ?_) hu)
  · exact (hbl p (by have := hp.2.1; omega) hp.2.2.2.1).trans (hb.cell hp.2.1)
  · refine ⟨hg'.1, (hg'.2.2.1.below hb hg'.2.1).grown hg (fun e => hg'.2.2.2.1 e.symm), ?_, hg'.2.2.2.2⟩
    rcases hv with hv | hv <;> rw [hv]
    · exact hg'.2.2.2.1
    · intro e; injection e with e; omega
  · exact hbl p hp.2.lt (fun e => by have := hlt _ e; omega)
  · have hgl := hg'.2.lt
    refine ⟨by omega, hg'.2.grown hg (fun e => by have := hlt _ e.symm; omega), ?_, fun e => by have := hbox _ e; omega⟩
    rcases hv with hv | hv <;> rw [hv]
    · intro e; have := hlt _ e; omega
    · intro e; injection e with e; omega
theorem rowG_step {wr w3 w4 : World} {v v' : Value} {xs : List X} {x : X} {us cs : List Value} (hN : N ≤ wr.heap.size) (hbox : ∀ b, box = some b → b < wr.heap.size)
    (hx : wr.ownsRow N et s v xs.length cs) (ha : T.AtL sent wr (fun g => N ≤ g ∧ CellsAt wr g ∧ v.ownBlock ≠ some g ∧ box ≠ some g) (xs.flatMap f) cs)
    (hu : T.AtL sent w3 (fun g => wr.heap.size ≤ g ∧ CellsAt w3 g) (f x) us) (hb : Below wr.heap.size wr w3)
    (ho : w4.ownsRow N et s v' (xs.length + 1) (cs ++ us)) (hg : w3.grownBy w4 v.ownBlock) (hv : v'.ownBlock = v.ownBlock ∨ v'.ownBlock = some w3.heap.size) : RowG sent et s f box N w4 v' (xs ++ [x]) :=
  rowM_step hN (Nat.le_refl _) hbox (fun r e => (hx.lt r e).2) (AtL.keep (fun _ _ => rfl) (fun g hg => ⟨hg.1, hg.2.1.lt, hg.2⟩) ha) hu hb ho hg hv
/-- The box is written. -/
theorem rowG_set {wr : World} {v : Value} {xs : List X} {b : Nat} (h : RowG sent et s f (some b) N wr v xs) (hv : v.ownBlock ≠ some b) (u : Value) : RowG sent et s f (some b) N (wr.setCell ⟨b, 0, none⟩ u) v xs := by
  obtain ⟨cs, ho, ha⟩ := h
  refine ⟨cs, ho.kept (row := some b) (grownBy_setCell' wr b u) (.inr hv), AtL.keep (fun p hp => ?_) (fun g hg => ⟨hg.1, hg.2.1.set _ _, hg.2.2⟩) ha⟩
  exact World.cell?_setCell_other _ _ _ _ (by rintro rfl; exact hp.2.2.2 rfl)
/-- The row as a tree. -/
theorem rowG_at (hf : ∀ x, (f x).length = s) {wr : World} {v : Value} {xs : List X} (h : RowG bare et s f box N wr v xs) : T.At bare wr (fun g => N ≤ g ∧ CellsAt wr g) (rowT s f xs) v := by
  obtain ⟨cs, ho, ha⟩ := h
  simp only [rowT, T.At]
  have ha' : T.AtL bare wr (fun g => N ≤ g ∧ CellsAt wr g) (xs.flatMap f) cs := AtL.keep (fun _ _ => rfl) (fun g hg => ⟨hg.1, hg.2.1⟩) ha
  rcases ho.2 with ⟨rfl, h0⟩ | ⟨g, cap, cur, rfl, hB, hgg, hn, hm, hcs, ht⟩
  · exact ⟨none, 0, cs, by rw [h0], by simp [bare, h0], by unfold maxLen; omega, flatMap_len f hf xs, fun hlt => by simp [bare, h0] at hlt, ha'⟩
  · refine ⟨_, cap, cs, rfl, by simpa [bare] using hn, hm, flatMap_len f hf xs, fun _ => ⟨_, rfl, ⟨hB, _, _, _, hgg⟩, ?_⟩, ha'⟩
    have := ho.cells (g := g) rfl
    simpa [bare, Cells] using this
/-- Numbers of the call's own. -/
theorem nums_cells {w' : World} {B : Nat} {e : TypeId} {k : IntKind} {v : Value} {l : List Int} (h : w'.ownsRow B e 1 v l.length (l.map (Value.int k))) : T.At bare w' (fun g => B ≤ g ∧ CellsAt w' g) (numsT k l) v := by
  simp only [numsT, T.At]
  rcases h.2 with ⟨rfl, h0⟩ | ⟨g, cap, cur, rfl, hB, hgg, hn, hm, hcs, ht⟩
  · refine ⟨none, 0, l.map (Value.int k), by rw [h0], by simp [bare, h0], by unfold maxLen; omega, by simp, fun hlt => ?_, AtL.of_lits⟩
    simp [bare, h0] at hlt
  · refine ⟨_, cap, l.map (Value.int k), rfl, by simpa [bare] using hn, hm, by simp, fun _ => ⟨_, rfl, ⟨hB, _, _, _, hgg⟩, ?_⟩, AtL.of_lits⟩
    have := h.cells (g := g) rfl
    simpa [bare, Cells] using this
theorem own_empty (w : World) (B : Nat) (e : TypeId) (size : Nat) (hB : B ≤ w.heap.size) : (w.alloc (.cells #[] e)).ownsRow B e size (.slice (some ⟨w.heap.size, 0, none⟩) 0 0) 0 [] :=
  ⟨by simp, .inr ⟨w.heap.size, 0, #[], rfl, hB, heap_alloc_new w _, Nat.le_refl _, by unfold maxLen; omega, by simp, by simp⟩⟩
/-- Laid anew, in memory that lay not there before, without marks. -/
def FreshT (t : T) (w : World) (e : Ending) (w' : World) : Prop := ∃ v, e = .returned v ∧ T.At bare w' (fun g => w.heap.size ≤ g ∧ CellsAt w' g) t v ∧ Below w.heap.size w w'
end
end Go.Proofs.YtfckomjbgopmaaaGreatDoor.Tree
end
