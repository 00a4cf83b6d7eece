/- Contracts: which values are of a field's kind; 'unless'. Written by gen_kind.py. Rows of structs that a call gathers, element by element, their parts beside them: in a variable of its own or in a box. Over any program. Rows of structs of three cells whose last is a row of numbers of its own: no two elements' numbers lie in one block. Over any program. Contract: slices.Clone over numbers. Contracts: rows of cells compared, lent, kept. Written by gen_cells.py out of the texts on entries. -/
import Derived.Test.YtfckomjbgopmaaaGreatDoorSchMay
import Derived.Test.YtfckomjbgopmaaaGreatDoorPack4
import Derived.RangeFuncBox
import Derived.RangeFuncFrom
import Derived.Test.YtfckomjbgopmaaaGreatDoorSchKept
section
set_option linter.unusedVariables false
namespace Go.Proofs.YtfckomjbgopmaaaGreatDoor.Sch
open Go.RowKit Words Tree SchP Kit Owned AnaP

/-- What the program asks. -/
def kindP (f : FT) (text : ByteArray) (n : Nat) : Bool := if f.kind = 3 then decide (text.size = 0) && decide (n = 1) else if f.kind = 5 then decide (text.size = 0) && decide ((n : Int) = f.dims) else decide (n = 0)
theorem empty_ways (s : ByteArray) : (s.size = 0 ∧ s.toList.isEmpty = true) ∨ (s.size ≠ 0 ∧ s.toList.isEmpty = false) := by
  have h : s.toList.isEmpty = true ↔ s.size = 0 := by
    rw [ByteArray.toList_eq, List.isEmpty_iff]
    constructor
    · intro h
      have := congrArg List.length h
      simpa using this
    · intro h
      exact List.eq_nil_of_length_eq_zero (by simpa using h)
  cases hb : s.toList.isEmpty with
  | true => exact .inl ⟨h.1 hb, rfl⟩
  | false => exact .inr ⟨(fun e => by rw [h.2 e] at hb; cases hb), rfl⟩
theorem eqn_ways (n : Nat) (k : Int) : ((n : Int) = k ∧ ((n : Int) == k) = true) ∨ ((n : Int) ≠ k ∧ ((n : Int) == k) = false) := by
  by_cases h : (n : Int) = k
  · exact .inl ⟨h, by simpa using h⟩
  · exact .inr ⟨h, by simpa using h⟩

set_option maxRecDepth 100000 in
set_option maxHeartbeats 4000000 in
theorem kind_any (f : FT) (X : Value) (text : ByteArray) (A : Option Addr) (n c : Nat) (w : World) :
    Calls Tryz.prog 33 #[.agg #[.string f.name, .int .i64 f.kind, X, .int .i64 f.scale, .int .i64 f.dims, .bool f.many, .bool f.stored], .string text, .slice A n c] w (AnsB (kindP f text n) w) := by
  obtain ⟨r, hr⟩ : ∃ r, kindP f text n = r := ⟨_, rfl⟩
  have HR := Lib.hid hr
  rw [hr]
  clear hr
  obtain ⟨f0, f1, f2, f3, f4, f5, f6⟩ := f
  rcases kind_ways f1 with rfl | rfl | rfl | rfl | rfl | ⟨e1, e2, e3, e4, e5, n1, n4, n5, k1, k2, k3, k4, k5⟩
  · skip
    rcases eqn_ways n 0 with ⟨h1, h2⟩ | ⟨h1, h2⟩
    · have HT : Hid (r = true) := Lib.hid (by rw [← HR.out]; simp [kindP, *]; try omega)
      clear HR
      go_enter Tryz.func33, Tryz.ntmps33
      go_wp2_with fail
      go_ret
      rw [HT.out]; exact ⟨by simp [*], (Below.refl _ _).alloc (Nat.le_refl _) _⟩
    · have HT : Hid (r = false) := Lib.hid (by rw [← HR.out]; simp [kindP, *]; try omega)
      clear HR
      go_enter Tryz.func33, Tryz.ntmps33
      go_wp2_with fail
      go_ret
      rw [HT.out]; exact ⟨by simp [*], (Below.refl _ _).alloc (Nat.le_refl _) _⟩
  · skip
    rcases eqn_ways n 0 with ⟨h1, h2⟩ | ⟨h1, h2⟩
    · have HT : Hid (r = true) := Lib.hid (by rw [← HR.out]; simp [kindP, *]; try omega)
      clear HR
      go_enter Tryz.func33, Tryz.ntmps33
      go_wp2_with fail
      go_ret
      rw [HT.out]; exact ⟨by simp [*], (Below.refl _ _).alloc (Nat.le_refl _) _⟩
    · have HT : Hid (r = false) := Lib.hid (by rw [← HR.out]; simp [kindP, *]; try omega)
      clear HR
      go_enter Tryz.func33, Tryz.ntmps33
      go_wp2_with fail
      go_ret
      rw [HT.out]; exact ⟨by simp [*], (Below.refl _ _).alloc (Nat.le_refl _) _⟩
  · skip
    rcases empty_ways text with ⟨t0, t1⟩ | ⟨t0, t1⟩
    rotate_left
    · have HT : Hid (r = false) := Lib.hid (by rw [← HR.out]; simp [kindP, *]; try omega)
      clear HR
      go_enter Tryz.func33, Tryz.ntmps33
      go_wp2_with fail
      go_ret
      rw [HT.out]; exact ⟨by simp [*], (Below.refl _ _).alloc (Nat.le_refl _) _⟩
    rcases eqn_ways n 1 with ⟨h1, h2⟩ | ⟨h1, h2⟩
    · have HT : Hid (r = true) := Lib.hid (by rw [← HR.out]; simp [kindP, *]; try omega)
      clear HR
      go_enter Tryz.func33, Tryz.ntmps33
      go_wp2_with fail
      go_ret
      rw [HT.out]; exact ⟨by simp [*], (Below.refl _ _).alloc (Nat.le_refl _) _⟩
    · have HT : Hid (r = false) := Lib.hid (by rw [← HR.out]; simp [kindP, *]; try omega)
      clear HR
      go_enter Tryz.func33, Tryz.ntmps33
      go_wp2_with fail
      go_ret
      rw [HT.out]; exact ⟨by simp [*], (Below.refl _ _).alloc (Nat.le_refl _) _⟩
  · skip
    rcases eqn_ways n 0 with ⟨h1, h2⟩ | ⟨h1, h2⟩
    · have HT : Hid (r = true) := Lib.hid (by rw [← HR.out]; simp [kindP, *]; try omega)
      clear HR
      go_enter Tryz.func33, Tryz.ntmps33
      go_wp2_with fail
      go_ret
      rw [HT.out]; exact ⟨by simp [*], (Below.refl _ _).alloc (Nat.le_refl _) _⟩
    · have HT : Hid (r = false) := Lib.hid (by rw [← HR.out]; simp [kindP, *]; try omega)
      clear HR
      go_enter Tryz.func33, Tryz.ntmps33
      go_wp2_with fail
      go_ret
      rw [HT.out]; exact ⟨by simp [*], (Below.refl _ _).alloc (Nat.le_refl _) _⟩
  · skip
    rcases empty_ways text with ⟨t0, t1⟩ | ⟨t0, t1⟩
    rotate_left
    · have HT : Hid (r = false) := Lib.hid (by rw [← HR.out]; simp [kindP, *]; try omega)
      clear HR
      go_enter Tryz.func33, Tryz.ntmps33
      go_wp2_with fail
      go_ret
      rw [HT.out]; exact ⟨by simp [*], (Below.refl _ _).alloc (Nat.le_refl _) _⟩
    rcases eqn_ways n f4 with ⟨h1, h2⟩ | ⟨h1, h2⟩
    · have HT : Hid (r = true) := Lib.hid (by rw [← HR.out]; simp [kindP, *]; try omega)
      clear HR
      go_enter Tryz.func33, Tryz.ntmps33
      go_wp2_with fail
      go_ret
      rw [HT.out]; exact ⟨by simp [*], (Below.refl _ _).alloc (Nat.le_refl _) _⟩
    · have HT : Hid (r = false) := Lib.hid (by rw [← HR.out]; simp [kindP, *]; try omega)
      clear HR
      go_enter Tryz.func33, Tryz.ntmps33
      go_wp2_with fail
      go_ret
      rw [HT.out]; exact ⟨by simp [*], (Below.refl _ _).alloc (Nat.le_refl _) _⟩
  · skip
    rcases eqn_ways n 0 with ⟨h1, h2⟩ | ⟨h1, h2⟩
    · have HT : Hid (r = true) := Lib.hid (by rw [← HR.out]; simp [kindP, *]; try omega)
      clear HR
      go_enter Tryz.func33, Tryz.ntmps33
      go_wp2_with fail
      go_ret
      rw [HT.out]; exact ⟨by simp [*], (Below.refl _ _).alloc (Nat.le_refl _) _⟩
    · have HT : Hid (r = false) := Lib.hid (by rw [← HR.out]; simp [kindP, *]; try omega)
      clear HR
      go_enter Tryz.func33, Tryz.ntmps33
      go_wp2_with fail
      go_ret
      rw [HT.out]; exact ⟨by simp [*], (Below.refl _ _).alloc (Nat.le_refl _) _⟩

set_option maxRecDepth 100000 in
theorem unless_any (b : Bool) (n : Int) (w : World) : Calls Tryz.prog 45 #[.bool b, .int .i64 n] w (IntB (if b then 0 else n) w) := by
  cases b with
  | true =>
    go_enter Tryz.func45, Tryz.ntmps45
    go_wp2_with fail
    go_ret
    exact ⟨rfl, Below.refl _ _⟩
  | false =>
    go_enter Tryz.func45, Tryz.ntmps45
    go_wp2_with fail
    go_ret
    exact ⟨rfl, Below.refl _ _⟩
end Go.Proofs.YtfckomjbgopmaaaGreatDoor.Sch
end
section
set_option linter.unusedVariables false
namespace Go.Proofs.YtfckomjbgopmaaaGreatDoor.Tree
open Go.RowKit Go.WideShapes Go.ChangeShapes Words Owned

/-- A block of cells. -/
def CellsAt (w : World) (g : Nat) : Prop := ∃ c t fz, w.heap[g]? = some (.cells c t fz)
theorem CellsAt.lt {w : World} {g : Nat} (h : CellsAt w g) : g < w.heap.size := by obtain ⟨c, t, fz, h⟩ := h; exact (Array.getElem?_eq_some_iff.1 h).1
theorem CellsAt.of {w w' : World} {g : Nat} (h : CellsAt w g) (e : w'.heap[g]? = w.heap[g]?) : CellsAt w' g := by obtain ⟨c, t, fz, h⟩ := h; exact ⟨c, t, fz, e.trans h⟩
theorem CellsAt.below {w w' : World} {g B : Nat} (h : CellsAt w g) (hb : Below B w w') (hg : g < B) : CellsAt w' g := h.of (hb.block g hg)
theorem CellsAt.grown {w w' : World} {g : Nat} {row : Option Nat} (h : CellsAt w g) (hg : w.grownBy w' row) (hne : some g ≠ row) : CellsAt w' g := h.of (hg.block g h.lt hne)
theorem CellsAt.set {w : World} {g : Nat} (h : CellsAt w g) (p : Addr) (u : Value) : CellsAt (w.setCell p u) g := by
  obtain ⟨c, t, fz, h⟩ := h
  by_cases e : p.block = g
  · subst e
    cases hsp : p.spot.isSome with
    | true => exact ⟨c, t, fz, by simp [World.setCell, Array.getElem?_modify, h, hsp]⟩
    | false => exact ⟨c.setIfInBounds p.off u, t, fz, by simp [World.setCell, Array.getElem?_modify, h, hsp]⟩
  · exact ⟨c, t, fz, (Below.heap_setCell w p u g (fun e' => e e'.symm)).trans h⟩

section
variable {sent : Nat → List (List Value)} {X : Type} {f : X → List T} {s : Nat} {et : TypeId} {box : Option Nat} {N : Nat}

/-- The elements xs are gathered in a row of its own (from block N on), their parts beside it and beside the box. -/
def RowG (sent : Nat → List (List Value)) (et : TypeId) (s : Nat) (f : X → List T) (box : Option Nat) (N : Nat) (wr : World) (v : Value) (xs : List X) : Prop :=
  ∃ cs, wr.ownsRow N et s v xs.length cs ∧ T.AtL sent wr (fun g => N ≤ g ∧ CellsAt wr g ∧ v.ownBlock ≠ some g ∧ box ≠ some g) (xs.flatMap f) cs
/-- The same, all of it below block m. -/
def RowM (sent : Nat → List (List Value)) (et : TypeId) (s : Nat) (f : X → List T) (box : Option Nat) (N m : Nat) (wr : World) (v : Value) (xs : List X) : Prop :=
  ∃ cs, wr.ownsRow N et s v xs.length cs ∧ (∀ r, v.ownBlock = some r → r < m) ∧ T.AtL sent wr (fun g => N ≤ g ∧ g < m ∧ CellsAt wr g ∧ v.ownBlock ≠ some g ∧ box ≠ some g) (xs.flatMap f) cs
/-- Numbers of the call's own. -/
theorem nums_cells {w' : World} {B : Nat} {e : TypeId} {k : IntKind} {v : Value} {l : List Int} (h : w'.ownsRow B e 1 v l.length (l.map (Value.int k))) : T.At bare w' (fun g => B ≤ g ∧ CellsAt w' g) (numsT k l) v := by
  simp only [numsT, T.At]
  rcases h.2 with ⟨rfl, h0⟩ | ⟨g, cap, cur, rfl, hB, hgg, hn, hm, hcs, ht⟩
  · refine ⟨none, 0, l.map (Value.int k), by rw [h0], by simp [bare, h0], by unfold maxLen; omega, by simp, fun hlt => ?_, AtL.of_lits⟩
    simp [bare, h0] at hlt
  · refine ⟨_, cap, l.map (Value.int k), rfl, by simpa [bare] using hn, hm, by simp, fun _ => ⟨_, rfl, ⟨hB, _, _, _, hgg⟩, ?_⟩, AtL.of_lits⟩
    have := h.cells (g := g) rfl
    simpa [bare, Cells] using this
theorem own_empty (w : World) (B : Nat) (e : TypeId) (size : Nat) (hB : B ≤ w.heap.size) : (w.alloc (.cells #[] e)).ownsRow B e size (.slice (some ⟨w.heap.size, 0, none⟩) 0 0) 0 [] :=
  ⟨by simp, .inr ⟨w.heap.size, 0, #[], rfl, hB, heap_alloc_new w _, Nat.le_refl _, by unfold maxLen; omega, by simp, by simp⟩⟩
end
end Go.Proofs.YtfckomjbgopmaaaGreatDoor.Tree
end
section
set_option linter.unusedVariables false
namespace Go.Proofs.YtfckomjbgopmaaaGreatDoor.Tree
open Go.RowKit Go.WideShapes Go.ChangeShapes Words Owned

/-- Numbers in a row of their own, made within the blocks lo .. hi. -/
structure NumsIn (e : TypeId) (k : IntKind) (lo hi : Nat) (w : World) (l : List Int) (v : Value) : Prop where
  own : w.ownsRow lo e 1 v l.length (l.map (Value.int k))
  lt : ∀ g, v.ownBlock = some g → g < hi
section
variable {e : TypeId} {k : IntKind} {lo hi : Nat} {w w' : World} {l : List Int} {v : Value}
theorem NumsIn.none_ : NumsIn e k lo hi w [] (.slice none 0 0) := ⟨World.ownsRow_nil _ _ _ _, fun g h => by cases h⟩
theorem NumsIn.keep (h : NumsIn e k lo hi w l v) (hk : ∀ g, lo ≤ g → g < hi → v.ownBlock = some g → w'.heap[g]? = w.heap[g]?) : NumsIn e k lo hi w' l v :=
  ⟨⟨h.own.1, h.own.2.elim .inl fun ⟨g, cap, cur, hv, h1, h2, h3⟩ => .inr ⟨g, cap, cur, hv, h1, (hk g h1 (h.lt g (by rw [hv]; rfl)) (by rw [hv]; rfl)).trans h2, h3⟩⟩, h.lt⟩
theorem NumsIn.below {B : Nat} (h : NumsIn e k lo hi w l v) (hb : Below B w w') (hB : hi ≤ B) : NumsIn e k lo hi w' l v := h.keep fun g _ h2 _ => hb.block g (by omega)
theorem NumsIn.grown {row : Option Nat} (h : NumsIn e k lo hi w l v) (hg : w.grownBy w' row) (hr : v.ownBlock = Option.none ∨ v.ownBlock ≠ row) : NumsIn e k lo hi w' l v :=
  h.keep fun g _ _ hv => hg.block g (h.own.lt g hv).2 (fun e => by
    rcases hr with hr | hr
    · rw [hr] at hv; cases hv
    · exact hr (hv.trans e))
theorem NumsIn.more {hi' : Nat} (h : NumsIn e k lo hi w l v) (hh : hi ≤ hi') : NumsIn e k lo hi' w l v := ⟨h.own, fun g hg => Nat.lt_of_lt_of_le (h.lt g hg) hh⟩
theorem NumsIn.from_ {lo' : Nat} (h : NumsIn e k lo hi w l v) (hh : lo' ≤ lo) : NumsIn e k lo' hi w l v := ⟨⟨h.own.1, h.own.2.elim .inl fun ⟨g, cap, cur, hv, h1, h2, h3⟩ => .inr ⟨g, cap, cur, hv, Nat.le_trans hh h1, h2, h3⟩⟩, h.lt⟩
theorem NumsIn.at_ (h : NumsIn e k lo hi w l v) : T.At bare w (fun g => lo ≤ g ∧ CellsAt w g) (numsT k l) v := nums_cells h.own
end

/-- The numbers of the elements xs: vs, one behind the other within the blocks N .. hi. -/
def NumL {X : Type} (e : TypeId) (k : IntKind) (nums : X → List Int) (w : World) (N hi : Nat) (xs : List X) (vs : List Value) : Prop :=
  vs.length = xs.length ∧ ∃ lv : Nat → Nat, (∀ i j, i ≤ j → lv i ≤ lv j) ∧ N ≤ lv 0 ∧ lv xs.length ≤ hi ∧ ∀ i x v, xs[i]? = some x → vs[i]? = some v → NumsIn e k (lv i) (lv (i + 1)) w (nums x) v
section
variable {X : Type} {e : TypeId} {k : IntKind} {nums : X → List Int} {w w' : World} {N hi : Nat} {xs : List X} {vs : List Value}
theorem NumL.nil (h : N ≤ hi) : NumL e k nums w N hi [] [] := ⟨rfl, fun _ => N, fun _ _ _ => Nat.le_refl _, Nat.le_refl _, h, fun i x v h => by simp at h⟩
theorem NumL.keep (h : NumL e k nums w N hi xs vs) (hk : ∀ v ∈ vs, ∀ g, N ≤ g → g < hi → v.ownBlock = some g → w'.heap[g]? = w.heap[g]?) : NumL e k nums w' N hi xs vs := by
  obtain ⟨h1, lv, h2, h3, h4, h5⟩ := h
  refine ⟨h1, lv, h2, h3, h4, fun i x v hx hv => (h5 i x v hx hv).keep fun g a b c => hk v (List.mem_of_getElem? hv) g ?_ ?_ c⟩
  · have := h2 0 i (Nat.zero_le _); omega
  · have hi' := (List.getElem?_eq_some_iff.1 hx).1
    have := h2 (i + 1) xs.length (by omega); omega
theorem NumL.below {B : Nat} (h : NumL e k nums w N hi xs vs) (hb : Below B w w') (hB : hi ≤ B) : NumL e k nums w' N hi xs vs := h.keep fun v _ g _ h2 _ => hb.block g (by omega)
theorem NumL.more {hi' : Nat} (h : NumL e k nums w N hi xs vs) (hh : hi ≤ hi') : NumL e k nums w N hi' xs vs := by
  obtain ⟨h1, lv, h2, h3, h4, h5⟩ := h
  exact ⟨h1, lv, h2, h3, by omega, h5⟩
theorem NumL.snoc {m : Nat} {x : X} {v : Value} (h : NumL e k nums w N m xs vs) (hx : NumsIn e k m hi w (nums x) v) (hm : m ≤ hi) : NumL e k nums w N hi (xs ++ [x]) (vs ++ [v]) := by
  obtain ⟨h1, lv, h2, h3, h4, h5⟩ := h
  refine ⟨by simp [h1], fun i => if i ≤ xs.length then lv i else hi, fun i j hij => ?_, ?_, ?_, fun i y u hy hu => ?_⟩
  · dsimp only
    split
    · split
      · exact h2 i j hij
      · have := h2 i xs.length (by assumption); omega
    · rw [if_neg (by omega)]; exact Nat.le_refl _
  · simpa using h3
  · dsimp only; rw [List.length_append, List.length_singleton, if_neg (by omega)]; exact Nat.le_refl _
  · rcases Nat.lt_or_ge i xs.length with hi' | hi'
    · rw [List.getElem?_append_left hi'] at hy
      rw [List.getElem?_append_left (by omega)] at hu
      dsimp only
      rw [if_pos (by omega), if_pos (by omega)]
      exact h5 i y u hy hu
    · have hlt := (List.getElem?_eq_some_iff.1 hy).1
      have : i = xs.length := by simp at hlt; omega
      subst this
      rw [List.getElem?_append_right (Nat.le_refl _)] at hy
      rw [List.getElem?_append_right (by omega), h1] at hu
      simp only [Nat.sub_self, List.getElem?_cons_zero, Option.some.injEq] at hy hu
      subst hy hu
      dsimp only
      rw [if_pos (Nat.le_refl _), if_neg (by omega)]
      exact ⟨⟨hx.own.1, hx.own.2.elim .inl fun ⟨g, cap, cur, hv, g1, g2, g3⟩ => .inr ⟨g, cap, cur, hv, by omega, g2, g3⟩⟩, hx.lt⟩
theorem NumL.grown {row : Option Nat} (h : NumL e k nums w N hi xs vs) (hg : w.grownBy w' row) (hr : ∀ r, row = some r → ∃ cur t fz, w.heap[r]? = some (.cells cur t fz) ∧ t ≠ e) : NumL e k nums w' N hi xs vs := by
  obtain ⟨h1, lv, h2, h3, h4, h5⟩ := h
  refine ⟨h1, lv, h2, h3, h4, fun i x v hx hv => (h5 i x v hx hv).grown hg ?_⟩
  rcases (h5 i x v hx hv).own.2 with ⟨rfl, _⟩ | ⟨g, cap, cur, rfl, _, hh, _⟩
  · exact .inl rfl
  · refine .inr fun e' => ?_
    obtain ⟨cur', t, fz, h6, h7⟩ := hr g e'.symm
    rw [h6] at hh
    injection hh with hh
    injection hh with _ hh
    exact h7 hh
end

/-- What lies in the row: each element's first cells, its numbers behind them. -/
def vals3 {X : Type} (pre : X → List Value) (xs : List X) (vs : List Value) : List Value := (xs.zip vs).flatMap fun p => pre p.1 ++ [p.2]
def RowN {X : Type} (et e : TypeId) (k : IntKind) (pre : X → List Value) (nums : X → List Int) (N : Nat) (wr : World) (v : Value) (xs : List X) : Prop :=
  ∃ vs, wr.ownsRow N et 3 v xs.length (vals3 pre xs vs) ∧ NumL e k nums wr N wr.heap.size xs vs
section
variable {X : Type} {et e : TypeId} {k : IntKind} {pre : X → List Value} {nums : X → List Int} {w w' : World} {N hi : Nat} {xs : List X} {vs : List Value}
theorem rowN_nil (h : N ≤ w.heap.size) : RowN et e k pre nums N w (.slice none 0 0) ([] : List X) := ⟨[], World.ownsRow_nil _ _ _ _, NumL.nil h⟩
theorem rowN_below {v : Value} (h : RowN et e k pre nums N w v xs) (hb : Below w.heap.size w w') : RowN et e k pre nums N w' v xs := by
  obtain ⟨vs, h1, h2⟩ := h
  exact ⟨vs, own_below h1 hb, (h2.below hb (Nat.le_refl _)).more hb.size⟩
theorem rowN_grown {v : Value} {row : Option Nat} (h : RowN et e k pre nums N w v xs) (hg : w.grownBy w' row) (hv : v.ownBlock = none ∨ v.ownBlock ≠ row) (hr : ∀ r, row = some r → ∃ cur t fz, w.heap[r]? = some (.cells cur t fz) ∧ t ≠ e) : RowN et e k pre nums N w' v xs := by
  obtain ⟨vs, h1, h2⟩ := h
  exact ⟨vs, h1.kept hg hv, (h2.grown hg hr).more hg.size⟩
theorem rowN_step {wr w3 w4 : World} {v v' u : Value} {x : X} (hne : et ≠ e) (ho : wr.ownsRow N et 3 v xs.length (vals3 pre xs vs)) (hn : NumL e k nums wr N wr.heap.size xs vs) (hx : NumsIn e k wr.heap.size w3.heap.size w3 (nums x) u) (hb : Below wr.heap.size wr w3)
    (ho' : w4.ownsRow N et 3 v' (xs.length + 1) (vals3 pre xs vs ++ (pre x ++ [u]))) (hg : w3.grownBy w4 v.ownBlock) : RowN et e k pre nums N w4 v' (xs ++ [x]) := by
  refine ⟨vs ++ [u], ?_, ?_⟩
  · rw [List.length_append, List.length_singleton]
    have : vals3 pre (xs ++ [x]) (vs ++ [u]) = vals3 pre xs vs ++ (pre x ++ [u]) := by
      unfold vals3
      rw [List.zip_append (by rw [hn.1]), List.flatMap_append]
      simp
    rw [this]; exact ho'
  · refine (((hn.below hb (Nat.le_refl _)).snoc hx hb.size).grown hg fun r hr => ?_).more hg.size
    rcases (own_below ho hb).2 with ⟨rfl, _⟩ | ⟨g, cap, cur, rfl, _, hh, _⟩
    · cases hr
    · have : g = r := by simpa [Value.ownBlock] using hr
      subst this
      exact ⟨_, _, _, hh, hne⟩
theorem rowN_from {N' : Nat} {v : Value} (h : RowN et e k pre nums N w v xs) (hN : N' ≤ N) : RowN et e k pre nums N' w v xs := by
  obtain ⟨vs, h1, h2, lv, h3, h4, h5, h6⟩ := h
  exact ⟨vs, ⟨h1.1, h1.2.elim .inl fun ⟨g, cap, cur, hv, g1, g2, g3⟩ => .inr ⟨g, cap, cur, hv, Nat.le_trans hN g1, g2, g3⟩⟩, h2, lv, h3, Nat.le_trans hN h4, h5, h6⟩
theorem rowN_stepM {m : Nat} {w3 w4 : World} {v v' u : Value} {x : X} (hne : et ≠ e) (ho : w3.ownsRow N et 3 v xs.length (vals3 pre xs vs)) (hn : NumL e k nums w3 N m xs vs) (hx : NumsIn e k m w3.heap.size w3 (nums x) u) (hm : m ≤ w3.heap.size)
    (ho' : w4.ownsRow N et 3 v' (xs.length + 1) (vals3 pre xs vs ++ (pre x ++ [u]))) (hg : w3.grownBy w4 v.ownBlock) : RowN et e k pre nums N w4 v' (xs ++ [x]) := by
  refine ⟨vs ++ [u], ?_, ?_⟩
  · rw [List.length_append, List.length_singleton]
    have : vals3 pre (xs ++ [x]) (vs ++ [u]) = vals3 pre xs vs ++ (pre x ++ [u]) := by
      unfold vals3
      rw [List.zip_append (by rw [hn.1]), List.flatMap_append]
      simp
    rw [this]; exact ho'
  · refine ((hn.snoc hx hm).grown hg fun r hr => ?_).more hg.size
    rcases ho.2 with ⟨rfl, _⟩ | ⟨g, cap, cur, rfl, _, hh, _⟩
    · cases hr
    · have : g = r := by simpa [Value.ownBlock] using hr
      subst this
      exact ⟨_, _, _, hh, hne⟩
theorem rowN_at {f : X → List T} (hf : ∀ x, (f x).length = 3) (hmk : ∀ (x : X) (u : Value) (S : Nat → Prop), T.At bare w S (numsT k (nums x)) u → T.AtL bare w S (f x) (pre x ++ [u])) {v : Value} (h : RowN et e k pre nums N w v xs) : T.At bare w (fun g => N ≤ g ∧ CellsAt w g) (rowT 3 f xs) v := by
  obtain ⟨vs, ho, hn⟩ := h
  have ha : T.AtL bare w (fun g => N ≤ g ∧ CellsAt w g) (xs.flatMap f) (vals3 pre xs vs) := by
    obtain ⟨h1, lv, h2, h3, h4, h5⟩ := hn
    have : ∀ (ys : List X) (us : List Value) (n : Nat), us.length = ys.length → (∀ i x v, ys[i]? = some x → us[i]? = some v → NumsIn e k (lv (n + i)) (lv (n + i + 1)) w (nums x) v) → T.AtL bare w (fun g => N ≤ g ∧ CellsAt w g) (ys.flatMap f) (vals3 pre ys us) := by
      intro ys
      induction ys with
      | nil => intro us n hl _; simp [vals3, T.AtL]
      | cons y ys ih =>
        intro us n hl hi
        cases us with
        | nil => simp at hl
        | cons u us =>
          have e1 : vals3 pre (y :: ys) (u :: us) = (pre y ++ [u]) ++ vals3 pre ys us := by simp [vals3]
          rw [List.flatMap_cons, e1]
          refine AtL.append (hmk y u _ ?_) (ih us (n + 1) (by simpa using hl) fun i x v hx hv => ?_)
          · have := (hi 0 y u rfl rfl).at_
            refine At.keep (fun _ _ => rfl) (fun g hg => ⟨?_, hg.2⟩) this
            have := h2 0 (n + 0) (by omega)
            have := hg.1
            omega
          · have := hi (i + 1) x v (by simpa using hx) (by simpa using hv)
            rwa [show n + (i + 1) = n + 1 + i by omega] at this
    exact this xs vs 0 h1 (by simpa using h5)
  simp only [rowT, T.At]
  rcases ho.2 with ⟨rfl, h0⟩ | ⟨g, cap, cur, rfl, hB, hgg, hn', hm, hcs, ht⟩
  · exact ⟨none, 0, _, by rw [h0], by simp [bare, h0], by unfold maxLen; omega, flatMap_len f hf xs, fun hlt => by simp [bare, h0] at hlt, ha⟩
  · refine ⟨_, cap, _, rfl, by simpa [bare] using hn', hm, flatMap_len f hf xs, fun _ => ⟨_, rfl, ⟨hB, _, _, _, hgg⟩, ?_⟩, ha⟩
    have := ho.cells (g := g) rfl
    simpa [bare, Cells] using this
end
end Go.Proofs.YtfckomjbgopmaaaGreatDoor.Tree
end
section
set_option linter.unusedVariables false
namespace Go.Proofs.YtfckomjbgopmaaaGreatDoor.Sch
open Go.RowKit Words Tree SchP Kit Owned

set_option maxRecDepth 100000 in
theorem eql_nilS (n c : Nat) (w : World) : (binOp .eql 55 (.slice none n c) (.slice none 0 0)).run Tryz.prog w = .ok (.bool true) w := by rfl
set_option maxRecDepth 100000 in
theorem eql_someS (ad : Addr) (n c : Nat) (w : World) : (binOp .eql 55 (.slice (some ad) n c) (.slice none 0 0)).run Tryz.prog w = .ok (.bool false) w := by rfl
/-- Numbers in a row of their own, made by this call. -/
def FreshN (l : List Int) (w : World) (e : Ending) (w' : World) : Prop := ∃ v, e = .returned v ∧ NumsIn 2 .i64 w.heap.size w'.heap.size w' l v ∧ Below w.heap.size w w'
set_option maxRecDepth 100000 in
theorem clone_own (v : Value) (l : List Int) (w : World) (hv : T.At bare w (fun g => g < w.heap.size) (numsT .i64 l) v) (hl : l.length * 8 ≤ 140737488351232) :
    Calls Tryz.prog 31 #[v] w (FreshN l w) := by
  obtain ⟨A, cap, rfl, hc, hm, hr⟩ := at_nums hv
  clear hv
  obtain ⟨i0, hi, hz0, hz1, hz2⟩ := info_parts infoI64
  cases A with
  | none =>
    have h0 : l = [] := by
      rcases Nat.eq_zero_or_pos l.length with h | h
      · exact List.eq_nil_of_length_eq_zero h
      · obtain ⟨ad, e, _⟩ := hr.2 h; cases e
    subst h0
    clear hr
    have hq := eql_nilS
    go_enter Tryz.func31, Tryz.ntmps31
    go_wp2_with fail
    go_ret
    exact ⟨_, rfl, NumsIn.none_, Below.refl _ _⟩
  | some ad =>
    have hq := eql_someS
    go_enter Tryz.func31, Tryz.ntmps31
    go_wp2_with (at_builtin; refine wpList_append_any _ rfl (.tmp 5) (.tmp 6) 55 rfl w.heap.size 2 i0 (.int .i64 0) 1 8 Tryz.underlying55 hi hz0 hz1 hz2 rfl (by decide) _ 0 [] rfl (own_empty w _ _ _ (Nat.le_refl _)) w.heap.size (some ad) l.length cap (l.map (Value.int .i64)) rfl (hr.alloc (Nat.le_refl _) _) ?c2 ?c3 ?c4 ?c5 ?_)
    case c2 => intro u hu; obtain ⟨z, _, rfl⟩ := List.mem_map.1 hu; rfl
    case c3 => unfold maxLen; omega
    case c4 => omega
    case c5 => simp
    intro v1 w1 ho1 hg1 _
    have hb1 : Below w.heap.size w w1 := ((Below.refl _ w).alloc (Nat.le_refl _) _).grown hg1 (by simp) (fun r e => by simp [Value.ownBlock] at e; omega)
    replace ho1 : w1.ownsRow w.heap.size 2 1 v1 l.length (l.map (Value.int .i64)) := by simpa using ho1
    have HB1 := Lib.hid hb1
    have HO1 := Lib.hid ho1
    clear hg1 hb1 ho1
    go_wp2_with fail
    go_ret
    exact ⟨_, rfl, ⟨HO1.out, fun g hg => (HO1.out.lt g hg).2⟩, HB1.out⟩
end Go.Proofs.YtfckomjbgopmaaaGreatDoor.Sch
end
section
set_option linter.unusedVariables false
namespace Go.Proofs.YtfckomjbgopmaaaGreatDoor.Sch
open Go.RowKit Words Tree SchP Kit Owned

theorem infoC : (Tryz.prog.info? 57).map (fun i => (i.zero, i.size, i.bytes)) = some (some (.agg #[.int .i64 0, .string ⟨#[]⟩, .slice none 0 0]), 3, 48) := by kernel_rfl
end Go.Proofs.YtfckomjbgopmaaaGreatDoor.Sch
end
