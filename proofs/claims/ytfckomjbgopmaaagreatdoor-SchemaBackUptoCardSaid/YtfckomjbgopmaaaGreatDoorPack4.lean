/- Small laws of rows that a call owns: across a call that only makes memory; two rows of different elements. Rows of structs as trees: their elements in memory, their marks, and a row that is lent (built anew, element by element, with a mark behind it). Over any program. -/
import Derived.Test.YtfckomjbgopmaaaGreatDoorPack2
import Derived.Test.YtfckomjbgopmaaaGreatDoorWords
import Derived.Test.YtfckomjbgopmaaaGreatDoorOpen
section
namespace Go.Proofs.YtfckomjbgopmaaaGreatDoor.Owned
open Go.RowKit Kit Words

/-- Two rows of different elements never share a block. -/
theorem own_own_ne {w : World} {B B' n n' m m' : Nat} {e e' : TypeId} {v v' : Value} {xs xs' : List Value} (h : w.ownsRow B e m v n xs) (h' : w.ownsRow B' e' m' v' n' xs') (hne : e ≠ e') : v.ownBlock = none ∨ v.ownBlock ≠ v'.ownBlock := by
  rcases h.2 with ⟨rfl, _⟩ | ⟨g, cap, cur, rfl, _, hg, _⟩
  · exact .inl rfl
  · right
    rcases h'.2 with ⟨rfl, _⟩ | ⟨g', cap', cur', rfl, _, hg', _⟩
    · simp [Value.ownBlock]
    · intro hh
      simp only [Value.ownBlock, Option.some.injEq] at hh
      subst hh
      rw [hg] at hg'
      injection hg' with hg'
      injection hg' with _ ht
      exact hne ht
theorem own_below {w w' : World} {B n m : Nat} {e : TypeId} {v : Value} {xs : List Value} (h : w.ownsRow B e m v n xs) (hb : Below w.heap.size w w') : w'.ownsRow B e m v n xs :=
  h.kept (only_of_below hb none) (by cases hv : v.ownBlock <;> simp)
/-- A row of the call's own is kept where a block that is no cells turns. -/
theorem own_cells_kept {w w' : World} {B n m : Nat} {e : TypeId} {v : Value} {xs : List Value} {row : Option Nat} (h : w.ownsRow B e m v n xs) (hg : w.grownBy w' row) (hr : ∀ r, row = some r → ∃ o : Obj, w.heap[r]? = some o ∧ (∀ c t fz, o ≠ .cells c t fz)) : w'.ownsRow B e m v n xs := by
  refine h.kept hg ?_
  rcases h.2 with ⟨rfl, _⟩ | ⟨g, cap, cur, rfl, _, hh, _⟩
  · exact .inl rfl
  · refine .inr (fun e => ?_)
    obtain ⟨o, ho, hc⟩ := hr g e.symm
    rw [hh] at ho
    exact hc _ _ _ (Option.some.inj ho).symm
theorem own_setCell_ne {w : World} {B n m : Nat} {e : TypeId} {v : Value} {xs : List Value} (h : w.ownsRow B e m v n xs) {a : Addr} (ha : v.ownBlock ≠ some a.block) (u : Value) : (w.setCell a u).ownsRow B e m v n xs := by
  refine h.kept (row := some a.block) ⟨rfl, rfl, rfl, by simp [World.setCell], fun k _ hk => Below.heap_setCell _ _ _ _ (fun e => hk (by rw [e]))⟩ (.inr ha)
end Go.Proofs.YtfckomjbgopmaaaGreatDoor.Owned
end
section
set_option linter.unusedVariables false
namespace Go.Proofs.YtfckomjbgopmaaaGreatDoor.Tree
open Go.RowKit Go.WideShapes Go.ChangeShapes Words Owned

/-- A row of integers as a tree. -/
def numsT (k : IntKind) (l : List Int) : T := .arr 1 l.length (l.map fun z => .lit (.int k z))
/-- A row of structs as a tree. -/
def rowT {X : Type} (s : Nat) (f : X → List T) (xs : List X) : T := .arr s xs.length (xs.flatMap f)

section
variable {sent : Nat → List (List Value)} {w : World} {S : Nat → Prop} {X : Type} {f : X → List T} {s : Nat}
theorem at_nums {B : Nat} {k : IntKind} {l : List Int} {v : Value} (h : T.At sent w (fun g => g < B) (numsT k l) v) : ∃ A cap, v = .slice A l.length cap ∧ l.length ≤ cap ∧ cap ≤ maxLen ∧ Reads w B 1 A l.length (l.map (Value.int k)) := by
  obtain ⟨A, cap, vs, hv, h1, h2, h3, h4⟩ := At.reads h
  obtain rfl := AtL.lits h4
  exact ⟨A, cap, hv, h1, h2, h3⟩
theorem at_slice {n : Nat} {xs : List T} {v : Value} (h : T.At sent w S (.arr s n xs) v) : ∃ A cap, v = .slice A n cap ∧ n + (sent s).length ≤ cap ∧ cap ≤ maxLen := by
  simp only [T.At] at h
  obtain ⟨A, cap, _, hv, h1, h2, _⟩ := h
  exact ⟨A, cap, hv, h1, h2⟩
/-- A row of structs in memory: element i's cells. -/
theorem at_row (hf : ∀ x, (f x).length = s) {xs : List X} {v : Value} (h : T.At sent w S (rowT s f xs) v) :
    ∃ A cap, v = .slice A xs.length cap ∧ xs.length + (sent s).length ≤ cap ∧ cap ≤ maxLen ∧ ∀ (i : Nat) (hi : i < xs.length), ∃ ad us, A = some ad ∧ S ad.block ∧ T.AtL sent w S (f xs[i]) us ∧ us.length = s ∧ Cells w (ad.add (i * s)) us := by
  simp only [rowT, T.At] at h
  obtain ⟨A, cap, vs, hv, hc, hm, hl, ha, hx⟩ := h
  refine ⟨A, cap, hv, hc, hm, fun i hi => ?_⟩
  obtain ⟨ad, e, hs, hcs⟩ := ha (by omega)
  obtain ⟨us, hul, hus, hj⟩ := AtL.elem hf hx i hi
  exact ⟨ad, us, e, hs, hus, hul, (hcs.left).elem hj hul⟩
/-! ### A row that is lent -/
/-- What a loop that lends a row knows: k elements are laid, in a row of its own, their parts beside it. -/
def LentRow (sent : Nat → List (List Value)) (et : TypeId) (s : Nat) (f : X → List T) (W wr : World) (v : Value) (xs : List X) (k : Nat) : Prop :=
  ∃ cs, wr.ownsRow W.heap.size et s v k cs ∧ T.AtL sent wr (fun g => W.heap.size ≤ g ∧ g < wr.heap.size ∧ v.ownBlock ≠ some g) ((xs.take k).flatMap f) cs ∧ Below W.heap.size W wr
theorem lentRow_zero (et : TypeId) (W : World) (xs : List X) : LentRow sent et s f W W (.slice none 0 0) xs 0 := ⟨[], World.ownsRow_nil _ _ _ _, by simp [T.AtL], Below.refl _ _⟩
theorem lentRow_step {et : TypeId} {W wr w3 w4 : World} {v v' : Value} {xs : List X} {k : Nat} {us cs : List Value} (hk : k < xs.length)
    (hx : wr.ownsRow W.heap.size et s v k cs) (ha : T.AtL sent wr (fun g => W.heap.size ≤ g ∧ g < wr.heap.size ∧ v.ownBlock ≠ some g) ((xs.take k).flatMap f) cs) (hB : Below W.heap.size W wr)
    (hu : T.AtL sent w3 (fun g => wr.heap.size ≤ g ∧ g < w3.heap.size) (f xs[k]) us) (hb : Below wr.heap.size wr w3)
    (ho : w4.ownsRow W.heap.size et s v' (k + 1) (cs ++ us)) (hg : w3.grownBy w4 v.ownBlock) (hv : v'.ownBlock = v.ownBlock ∨ v'.ownBlock = some w3.heap.size) : LentRow sent et s f W w4 v' xs (k + 1) := by
  have hlt : ∀ r, v.ownBlock = some r → r < wr.heap.size := fun r e => (hx.lt r e).2
  have hz3 := hb.size
  have hz4 := hg.size
  have hbl : ∀ p : Addr, p.block < w3.heap.size → v.ownBlock ≠ some p.block → w4.cell? p = w3.cell? p := fun p hp hne =>
    World.cell?_of_block (hg.block p.block hp (fun e => hne e.symm))
  refine ⟨cs ++ us, ho, ?_, ?_⟩
  · rw [List.take_succ_eq_append_getElem hk, List.flatMap_append, List.flatMap_singleton]
    refine AtL.append (AtL.keep (fun p hp => ?_) (fun g hg' => ?_) ha) (AtL.keep (fun p hp => ?_) (fun g hg' => ?_) hu)
    · exact (hbl p (by omega) hp.2.2).trans (hb.cell hp.2.1)
    · refine ⟨hg'.1, by omega, ?_⟩
      rcases hv with hv | hv <;> rw [hv]
      · exact hg'.2.2
      · intro e; injection e with e; omega
    · exact hbl p hp.2 (fun e => by have := hlt _ e; omega)
    · refine ⟨by have := hB.size; omega, by omega, ?_⟩
      rcases hv with hv | hv <;> rw [hv]
      · intro e; have := hlt _ e; omega
      · intro e; injection e with e; omega
  · exact (hB.trans (hb.mono hB.size)).grown hg (by have := hB.size; omega) (fun r e => (hx.lt r e).1)
/-- The row with the mark behind it. -/
theorem lentRow_end (hf : ∀ x, (f x).length = s) {mark : List Value} (hmk : sent s = [mark]) {et : TypeId} {W wr w3 w4 : World} {v : Value} {xs : List X} {cs : List Value} {g cap : Nat}
    (hx : wr.ownsRow W.heap.size et s v xs.length cs) (ha : T.AtL sent wr (fun g => W.heap.size ≤ g ∧ g < wr.heap.size ∧ v.ownBlock ≠ some g) ((xs.take xs.length).flatMap f) cs) (hB : Below W.heap.size W wr) (hb : Below wr.heap.size wr w3)
    (ho : w4.ownsRow W.heap.size et s (.slice (some ⟨g, 0, none⟩) (xs.length + 1) cap) (xs.length + 1) (cs ++ mark)) (hcap : xs.length + 1 ≤ cap) (hm : cap ≤ maxLen) (hg : w3.grownBy w4 v.ownBlock) :
    T.At sent w4 (fun g => W.heap.size ≤ g ∧ g < w4.heap.size) (rowT s f xs) (.slice (some ⟨g, 0, none⟩) xs.length cap) ∧ Below W.heap.size W w4 := by
  have hz3 := hb.size
  have hz4 := hg.size
  have hlt := ho.lt g rfl
  refine ⟨?_, (hB.trans (hb.mono hB.size)).grown hg (by have := hB.size; omega) (fun r e => (hx.lt r e).1)⟩
  simp only [rowT, T.At]
  rw [List.take_length] at ha
  refine ⟨_, cap, cs, rfl, by rw [hmk]; simpa using hcap, hm, flatMap_len f hf xs, fun _ => ⟨_, rfl, hlt, ?_⟩, AtL.keep (fun p hp => ?_) (fun g' hg' => ⟨hg'.1, by omega⟩) ha⟩
  · rw [hmk]
    simp only [List.flatten_cons, List.flatten_nil, List.append_nil]
    exact ho.cells (g := g) rfl
  · exact (World.cell?_of_block (hg.block p.block (by omega) (fun e => hp.2.2 e.symm))).trans (hb.cell hp.2.1)
end

section
variable {P : Program}
/-- Rows whose elements are read as data, read whole. -/
theorem rows_of {α : Type} {f : α → List T} {C : α → Prop} : ∀ {rows : List (List T)}, (∀ r ∈ rows, ∃ a, r = f a ∧ C a) → ∃ l : List α, rows = l.map f ∧ ∀ a ∈ l, C a
  | [], _ => ⟨[], rfl, by simp⟩
  | r :: rows, h => by
    obtain ⟨a, rfl, ha⟩ := h r (by simp)
    obtain ⟨l, rfl, hl⟩ := rows_of (rows := rows) fun r hr => h r (List.mem_cons_of_mem _ hr)
    exact ⟨a :: l, rfl, by simpa using ⟨ha, hl⟩⟩
theorem nums_flat {k : IntKind} : ∀ l : List Int, l.flatMap (fun z => [T.lit (.int k z)]) = l.map fun z => T.lit (.int k z)
  | [] => rfl
  | z :: l => by rw [List.flatMap_cons, List.map_cons, nums_flat l]; rfl
theorem nums_of {t e : TypeId} {k : IntKind} {ts : List T} (h : Typed P t ts) (ht : P.underlying t = some (.slice e)) (he : P.underlying e = some (.int k)) (hc : P.cellsOf e = 1) :
    ∃ l : List Int, ts = [numsT k l] ∧ l.length * P.bytesOf e ≤ 140737488351232 ∧ ∀ z ∈ l, (Lit.int k z).wf = true := by
  obtain ⟨rows, rfl, hr, _, hb, _⟩ := h.slice_inv ht
  obtain ⟨l, rfl, hl⟩ := rows_of (f := fun z => [T.lit (.int k z)]) (C := fun z => (Lit.int k z).wf = true) (fun r hr' => by
    obtain ⟨n, h1, h2⟩ := (hr r hr').int_inv he
    exact ⟨n, h1, h2⟩)
  refine ⟨l, ?_, by simpa using hb, hl⟩
  rw [hc, List.length_map, numsT]
  congr 2
  rw [← List.flatMap_def]
  exact nums_flat l
theorem row_of {X : Type} {f : X → List T} {C : X → Prop} {t e : TypeId} {ts : List T} (h : Typed P t ts) (ht : P.underlying t = some (.slice e)) (hf : ∀ r, Typed P e r → ∃ x, r = f x ∧ C x) :
    ∃ l : List X, ts = [rowT (P.cellsOf e) f l] ∧ l.length * P.bytesOf e ≤ 140737488351232 ∧ l.length ≤ maxLen ∧ ∀ x ∈ l, C x := by
  obtain ⟨rows, rfl, hr, _, hb, hm⟩ := h.slice_inv ht
  obtain ⟨l, rfl, hl⟩ := rows_of (f := f) (C := C) (fun r hr' => hf r (hr r hr'))
  refine ⟨l, ?_, by simpa using hb, by simpa using hm, hl⟩
  rw [List.length_map, rowT, List.flatMap_def]
end
end Go.Proofs.YtfckomjbgopmaaaGreatDoor.Tree
end
