/- Small laws of rows that a call owns: across a call that only makes memory; two rows of different elements. Rows of structs as trees: their elements in memory, their marks, and a row that is lent (built anew, element by element, with a mark behind it). Over any program. What the functions of the fold layer compute, as plain Lean functions on numbers. What the functions of the fold layer compute on texts, as plain Lean functions on lists of bytes (the model's own decoder: 'Lib.decodeL'). -/
import Derived.Test.YtfckomjbgopmaaaGreatDoorPack2
import Derived.Test.YtfckomjbgopmaaaGreatDoorWords
import Derived.Test.YtfckomjbgopmaaaGreatDoorOpen
import Derived.Lib.MapLaws
import Derived.Lib.ValidLaws
section
namespace Go.Proofs.YtfckomjbgopmaaaGreatDoor.Owned
open Go.RowKit Kit Words

/-- Two rows of different elements never share a block. -/
theorem own_own_ne {w : World} {B B' n n' m m' : Nat} {e e' : TypeId} {v v' : Value} {xs xs' : List Value} (h : w.ownsRow B e m v n xs) (h' : w.ownsRow B' e' m' v' n' xs') (hne : e ≠ e') : v.ownBlock = none ∨ v.ownBlock ≠ v'.ownBlock := by
  rcases h.2 with ⟨rfl, _⟩ | ⟨g, cap, cur, rfl, _, hg, _⟩
  · exact .inl rfl
  · right
    rcases h'.2 with ⟨rfl, _⟩ | ⟨g', cap', cur', rfl, _, hg', _⟩
    · simp [Value.ownBlock]
    · intro hh
      simp only [Value.ownBlock, Option.some.injEq] at hh
      subst hh
      rw [hg] at hg'
      injection hg' with hg'
      injection hg' with _ ht
      exact hne ht
theorem own_below {w w' : World} {B n m : Nat} {e : TypeId} {v : Value} {xs : List Value} (h : w.ownsRow B e m v n xs) (hb : Below w.heap.size w w') : w'.ownsRow B e m v n xs :=
  h.kept (only_of_below hb none) (by cases hv : v.ownBlock <;> simp)
/-- Its length and capacity are written out, whatever its address. -/
theorem own_slice {w : World} {B n : Nat} {e : TypeId} {v : Value} {xs : List Value} (h : w.ownsRow B e 1 v n xs) : ∃ ao cap, v = .slice ao n cap := by
  rcases h.2 with ⟨rfl, h0⟩ | ⟨g, cap, cur, rfl, _⟩
  · exact ⟨none, 0, by rw [h0]⟩
  · exact ⟨_, _, rfl⟩
theorem own_cell {w : World} {B n : Nat} {e : TypeId} {ao : Option Addr} {cap : Nat} {xs : List Value} (h : w.ownsRow B e 1 (.slice ao n cap) n xs) {i : Nat} (hi : i < n) : ∃ g, ao = some ⟨g, 0, none⟩ ∧ B ≤ g ∧ g < w.heap.size ∧ ∀ j u, xs[j]? = some u → w.cell? ⟨g, j, none⟩ = some u := by
  rcases h.2 with ⟨hv, h0⟩ | ⟨g, cap', cur, hv, hb, hg, _⟩
  · omega
  · injection hv with ha _ _
    refine ⟨g, ha, hb, (Array.getElem?_eq_some_iff.1 hg).1, fun j u hu => ?_⟩
    have := h.cells (g := g) (by rw [ha]; rfl) j u hu
    have hadd : (⟨g, 0, none⟩ : Addr).add j = ⟨g, j, none⟩ := by unfold Addr.add; split <;> simp_all
    rwa [hadd] at this
/-- A row of the call's own is kept where a block that is no cells turns. -/
theorem own_cells_kept {w w' : World} {B n m : Nat} {e : TypeId} {v : Value} {xs : List Value} {row : Option Nat} (h : w.ownsRow B e m v n xs) (hg : w.grownBy w' row) (hr : ∀ r, row = some r → ∃ o : Obj, w.heap[r]? = some o ∧ (∀ c t fz, o ≠ .cells c t fz)) : w'.ownsRow B e m v n xs := by
  refine h.kept hg ?_
  rcases h.2 with ⟨rfl, _⟩ | ⟨g, cap, cur, rfl, _, hh, _⟩
  · exact .inl rfl
  · refine .inr (fun e => ?_)
    obtain ⟨o, ho, hc⟩ := hr g e.symm
    rw [hh] at ho
    exact hc _ _ _ (Option.some.inj ho).symm
theorem own_setCell_ne {w : World} {B n m : Nat} {e : TypeId} {v : Value} {xs : List Value} (h : w.ownsRow B e m v n xs) {a : Addr} (ha : v.ownBlock ≠ some a.block) (u : Value) : (w.setCell a u).ownsRow B e m v n xs := by
  refine h.kept (row := some a.block) ⟨rfl, rfl, rfl, by simp [World.setCell], fun k _ hk => Below.heap_setCell _ _ _ _ (fun e => hk (by rw [e]))⟩ (.inr ha)
end Go.Proofs.YtfckomjbgopmaaaGreatDoor.Owned
end
section
set_option linter.unusedVariables false
namespace Go.Proofs.YtfckomjbgopmaaaGreatDoor.Tree
open Go.RowKit Go.WideShapes Go.ChangeShapes Words Owned

/-- A row of integers as a tree. -/
def numsT (k : IntKind) (l : List Int) : T := .arr 1 l.length (l.map fun z => .lit (.int k z))
/-- A row of structs as a tree. -/
def rowT {X : Type} (s : Nat) (f : X → List T) (xs : List X) : T := .arr s xs.length (xs.flatMap f)

section
variable {sent : Nat → List (List Value)} {w : World} {S : Nat → Prop} {X : Type} {f : X → List T} {s : Nat}
theorem at_nums {B : Nat} {k : IntKind} {l : List Int} {v : Value} (h : T.At sent w (fun g => g < B) (numsT k l) v) : ∃ A cap, v = .slice A l.length cap ∧ l.length ≤ cap ∧ cap ≤ maxLen ∧ Reads w B 1 A l.length (l.map (Value.int k)) := by
  obtain ⟨A, cap, vs, hv, h1, h2, h3, h4⟩ := At.reads h
  obtain rfl := AtL.lits h4
  exact ⟨A, cap, hv, h1, h2, h3⟩
theorem at_slice {n : Nat} {xs : List T} {v : Value} (h : T.At sent w S (.arr s n xs) v) : ∃ A cap, v = .slice A n cap ∧ n + (sent s).length ≤ cap ∧ cap ≤ maxLen := by
  simp only [T.At] at h
  obtain ⟨A, cap, _, hv, h1, h2, _⟩ := h
  exact ⟨A, cap, hv, h1, h2⟩
/-- A row of structs in memory: element i's cells. -/
theorem at_row (hf : ∀ x, (f x).length = s) {xs : List X} {v : Value} (h : T.At sent w S (rowT s f xs) v) :
    ∃ A cap, v = .slice A xs.length cap ∧ xs.length + (sent s).length ≤ cap ∧ cap ≤ maxLen ∧ ∀ (i : Nat) (hi : i < xs.length), ∃ ad us, A = some ad ∧ S ad.block ∧ T.AtL sent w S (f xs[i]) us ∧ us.length = s ∧ Cells w (ad.add (i * s)) us := by
  simp only [rowT, T.At] at h
  obtain ⟨A, cap, vs, hv, hc, hm, hl, ha, hx⟩ := h
  refine ⟨A, cap, hv, hc, hm, fun i hi => ?_⟩
  obtain ⟨ad, e, hs, hcs⟩ := ha (by omega)
  obtain ⟨us, hul, hus, hj⟩ := AtL.elem hf hx i hi
  exact ⟨ad, us, e, hs, hus, hul, (hcs.left).elem hj hul⟩
/-- And with a mark behind it. -/
theorem at_row_mark (hf : ∀ x, (f x).length = s) {mark : List Value} (hm : sent s = [mark]) {xs : List X} {v : Value} (h : T.At sent w S (rowT s f xs) v) :
    ∃ ad cap, v = .slice (some ad) xs.length cap ∧ xs.length + 1 ≤ cap ∧ cap ≤ maxLen ∧ S ad.block ∧ Cells w (ad.add (xs.length * s)) mark ∧
      ∀ (i : Nat) (hi : i < xs.length), ∃ us, T.AtL sent w S (f xs[i]) us ∧ us.length = s ∧ Cells w (ad.add (i * s)) us := by
  simp only [rowT, T.At] at h
  obtain ⟨A, cap, vs, hv, hc, hm', hl, ha, hx⟩ := h
  rw [hm] at hc ha
  obtain ⟨ad, rfl, hs, hcs⟩ := ha (by simp)
  refine ⟨ad, cap, hv, hc, hm', hs, ?_, fun i hi => ?_⟩
  · have := hcs.right
    rw [AtL.length hx, flatMap_len f hf] at this
    simpa using this
  · obtain ⟨us, hul, hus, hj⟩ := AtL.elem hf hx i hi
    exact ⟨us, hus, hul, (hcs.left).elem hj hul⟩
theorem at_nums_mark {k : IntKind} {u : Value} (hm : sent 1 = [[u]]) {l : List Int} {v : Value} (h : T.At sent w S (numsT k l) v) :
    ∃ ad cap, v = .slice (some ad) l.length cap ∧ l.length + 1 ≤ cap ∧ cap ≤ maxLen ∧ S ad.block ∧ w.cell? (ad.add l.length) = some u := by
  simp only [numsT, T.At] at h
  obtain ⟨A, cap, vs, hv, hc, hm', hl, ha, hx⟩ := h
  rw [hm] at hc ha
  obtain ⟨ad, rfl, hs, hcs⟩ := ha (by simp)
  obtain rfl := AtL.lits hx
  refine ⟨ad, cap, hv, hc, hm', hs, ?_⟩
  have := hcs.right.zero
  rwa [List.length_map] at this

/-! ### A row that is lent -/
/-- What a loop that lends a row knows: k elements are laid, in a row of its own, their parts beside it. -/
def LentRow (sent : Nat → List (List Value)) (et : TypeId) (s : Nat) (f : X → List T) (W wr : World) (v : Value) (xs : List X) (k : Nat) : Prop :=
  ∃ cs, wr.ownsRow W.heap.size et s v k cs ∧ T.AtL sent wr (fun g => W.heap.size ≤ g ∧ g < wr.heap.size ∧ v.ownBlock ≠ some g) ((xs.take k).flatMap f) cs ∧ Below W.heap.size W wr
theorem lentRow_zero (et : TypeId) (W : World) (xs : List X) : LentRow sent et s f W W (.slice none 0 0) xs 0 := ⟨[], World.ownsRow_nil _ _ _ _, by simp [T.AtL], Below.refl _ _⟩
theorem lentRow_step {et : TypeId} {W wr w3 w4 : World} {v v' : Value} {xs : List X} {k : Nat} {us cs : List Value} (hk : k < xs.length)
    (hx : wr.ownsRow W.heap.size et s v k cs) (ha : T.AtL sent wr (fun g => W.heap.size ≤ g ∧ g < wr.heap.size ∧ v.ownBlock ≠ some g) ((xs.take k).flatMap f) cs) (hB : Below W.heap.size W wr)
    (hu : T.AtL sent w3 (fun g => wr.heap.size ≤ g ∧ g < w3.heap.size) (f xs[k]) us) (hb : Below wr.heap.size wr w3)
    (ho : w4.ownsRow W.heap.size et s v' (k + 1) (cs ++ us)) (hg : w3.grownBy w4 v.ownBlock) (hv : v'.ownBlock = v.ownBlock ∨ v'.ownBlock = some w3.heap.size) : LentRow sent et s f W w4 v' xs (k + 1) := by
  have hlt : ∀ r, v.ownBlock = some r → r < wr.heap.size := fun r e => (hx.lt r e).2
  have hz3 := hb.size
  have hz4 := hg.size
  have hbl : ∀ p : Addr, p.block < w3.heap.size → v.ownBlock ≠ some p.block → w4.cell? p = w3.cell? p := fun p hp hne =>
    World.cell?_of_block (hg.block p.block hp (fun e => hne e.symm))
  refine ⟨cs ++ us, ho, ?_, ?_⟩
  · rw [List.take_succ_eq_append_getElem hk, List.flatMap_append, List.flatMap_singleton]
    refine AtL.append (AtL.keep (fun p hp => ?_) (fun g hg' => ?_) ha) (AtL.keep (fun p hp => ?_) (fun g hg' => ?_) hu)
    · exact (hbl p (by omega) hp.2.2).trans (hb.cell hp.2.1)
    · refine ⟨hg'.1, by omega, ?_⟩
      rcases hv with hv | hv <;> rw [hv]
      · exact hg'.2.2
      · intro e; injection e with e; omega
    · exact hbl p hp.2 (fun e => by have := hlt _ e; omega)
    · refine ⟨by have := hB.size; omega, by omega, ?_⟩
      rcases hv with hv | hv <;> rw [hv]
      · intro e; have := hlt _ e; omega
      · intro e; injection e with e; omega
  · exact (hB.trans (hb.mono hB.size)).grown hg (by have := hB.size; omega) (fun r e => (hx.lt r e).1)
/-- The row with the mark behind it. -/
theorem lentRow_end (hf : ∀ x, (f x).length = s) {mark : List Value} (hmk : sent s = [mark]) {et : TypeId} {W wr w3 w4 : World} {v : Value} {xs : List X} {cs : List Value} {g cap : Nat}
    (hx : wr.ownsRow W.heap.size et s v xs.length cs) (ha : T.AtL sent wr (fun g => W.heap.size ≤ g ∧ g < wr.heap.size ∧ v.ownBlock ≠ some g) ((xs.take xs.length).flatMap f) cs) (hB : Below W.heap.size W wr) (hb : Below wr.heap.size wr w3)
    (ho : w4.ownsRow W.heap.size et s (.slice (some ⟨g, 0, none⟩) (xs.length + 1) cap) (xs.length + 1) (cs ++ mark)) (hcap : xs.length + 1 ≤ cap) (hm : cap ≤ maxLen) (hg : w3.grownBy w4 v.ownBlock) :
    T.At sent w4 (fun g => W.heap.size ≤ g ∧ g < w4.heap.size) (rowT s f xs) (.slice (some ⟨g, 0, none⟩) xs.length cap) ∧ Below W.heap.size W w4 := by
  have hz3 := hb.size
  have hz4 := hg.size
  have hlt := ho.lt g rfl
  refine ⟨?_, (hB.trans (hb.mono hB.size)).grown hg (by have := hB.size; omega) (fun r e => (hx.lt r e).1)⟩
  simp only [rowT, T.At]
  rw [List.take_length] at ha
  refine ⟨_, cap, cs, rfl, by rw [hmk]; simpa using hcap, hm, flatMap_len f hf xs, fun _ => ⟨_, rfl, hlt, ?_⟩, AtL.keep (fun p hp => ?_) (fun g' hg' => ⟨hg'.1, by omega⟩) ha⟩
  · rw [hmk]
    simp only [List.flatten_cons, List.flatten_nil, List.append_nil]
    exact ho.cells (g := g) rfl
  · exact (World.cell?_of_block (hg.block p.block (by omega) (fun e => hp.2.2 e.symm))).trans (hb.cell hp.2.1)
end

section
variable {P : Program}
/-- Rows whose elements are read as data, read whole. -/
theorem rows_of {α : Type} {f : α → List T} {C : α → Prop} : ∀ {rows : List (List T)}, (∀ r ∈ rows, ∃ a, r = f a ∧ C a) → ∃ l : List α, rows = l.map f ∧ ∀ a ∈ l, C a
  | [], _ => ⟨[], rfl, by simp⟩
  | r :: rows, h => by
    obtain ⟨a, rfl, ha⟩ := h r (by simp)
    obtain ⟨l, rfl, hl⟩ := rows_of (rows := rows) fun r hr => h r (List.mem_cons_of_mem _ hr)
    exact ⟨a :: l, rfl, by simpa using ⟨ha, hl⟩⟩
theorem nums_flat {k : IntKind} : ∀ l : List Int, l.flatMap (fun z => [T.lit (.int k z)]) = l.map fun z => T.lit (.int k z)
  | [] => rfl
  | z :: l => by rw [List.flatMap_cons, List.map_cons, nums_flat l]; rfl
theorem nums_of {t e : TypeId} {k : IntKind} {ts : List T} (h : Typed P t ts) (ht : P.underlying t = some (.slice e)) (he : P.underlying e = some (.int k)) (hc : P.cellsOf e = 1) :
    ∃ l : List Int, ts = [numsT k l] ∧ l.length * P.bytesOf e ≤ 140737488351232 ∧ ∀ z ∈ l, (Lit.int k z).wf = true := by
  obtain ⟨rows, rfl, hr, _, hb, _⟩ := h.slice_inv ht
  obtain ⟨l, rfl, hl⟩ := rows_of (f := fun z => [T.lit (.int k z)]) (C := fun z => (Lit.int k z).wf = true) (fun r hr' => by
    obtain ⟨n, h1, h2⟩ := (hr r hr').int_inv he
    exact ⟨n, h1, h2⟩)
  refine ⟨l, ?_, by simpa using hb, hl⟩
  rw [hc, List.length_map, numsT]
  congr 2
  rw [← List.flatMap_def]
  exact nums_flat l
theorem row_of {X : Type} {f : X → List T} {C : X → Prop} {t e : TypeId} {ts : List T} (h : Typed P t ts) (ht : P.underlying t = some (.slice e)) (hf : ∀ r, Typed P e r → ∃ x, r = f x ∧ C x) :
    ∃ l : List X, ts = [rowT (P.cellsOf e) f l] ∧ l.length * P.bytesOf e ≤ 140737488351232 ∧ l.length ≤ maxLen ∧ ∀ x ∈ l, C x := by
  obtain ⟨rows, rfl, hr, _, hb, hm⟩ := h.slice_inv ht
  obtain ⟨l, rfl, hl⟩ := rows_of (f := f) (C := C) (fun r hr' => hf r (hr r hr'))
  refine ⟨l, ?_, by simpa using hb, by simpa using hm, hl⟩
  rw [List.length_map, rowT, List.flatMap_def]
end
end Go.Proofs.YtfckomjbgopmaaaGreatDoor.Tree
end
section
namespace FoldP

def inB (r lo hi : Int) : Bool := decide (lo ≤ r) && decide (r ≤ hi)

def amongB (r : Int) : List Int → Bool
  | a :: b :: l => inB r a b || amongB r l
  | _ => false

def low1 : List Int := [0x41, 0x5A, 0xC0, 0xD6, 0xD8, 0xDE, 0x391, 0x3A1, 0x3A3, 0x3AB, 0x410, 0x42F]
def low2 : List Int := [0x100, 0x12F, 0x132, 0x137, 0x14A, 0x177, 0x460, 0x481, 0x48A, 0x4BF, 0x4D0, 0x52F]
def low3 : List Int := [0x139, 0x148, 0x179, 0x17E, 0x4C1, 0x4CE]

/-- The lower case of a number. -/
def lowerF (r : Int) : Int :=
  if amongB r low1 then r + 0x20
  else if amongB r low2 then r - r % 2 + 1
  else if amongB r low3 then r + r % 2
  else if inB r 0x388 0x38A then r + 0x25
  else if inB r 0x38E 0x38F then r + 0x3F
  else if inB r 0x400 0x40F then r + 0x50
  else if r = 0x178 then 0xFF
  else if r = 0x4C0 then 0x4CF
  else if r = 0x386 then 0x3AC
  else if r = 0x38C then 0x3CC
  else r

def letters : List Int := [0x41, 0x5A, 0x61, 0x7A, 0xAA, 0xAA, 0xB5, 0xB5, 0xBA, 0xBA, 0xC0, 0xD6, 0xD8, 0xF6, 0xF8, 0x2AF, 0x370, 0x373, 0x376, 0x377, 0x37B, 0x37D, 0x37F, 0x37F, 0x386, 0x386, 0x388, 0x38A, 0x38C, 0x38C, 0x38E, 0x3A1, 0x3A3, 0x3F5, 0x3F7, 0x481, 0x48A, 0x52F, 0x5D0, 0x5EA, 0x620, 0x64A, 0x904, 0x939, 0x3041, 0x3096, 0x30A1, 0x30FA, 0x4E00, 0x9FFF, 0xAC00, 0xD7A3]
def digits : List Int := [0x30, 0x39, 0x660, 0x669, 0x966, 0x96F, 0xFF10, 0xFF19]
def marks : List Int := [0x300, 0x36F, 0x483, 0x489, 0x591, 0x5BD, 0x64B, 0x65F, 0x93C, 0x93C, 0x20D0, 0x20F0, 0xFE20, 0xFE2F]
def letterF (r : Int) : Bool := amongB r letters
def digitF (r : Int) : Bool := amongB r digits
def markF (r : Int) : Bool := amongB r marks

theorem inB_true {r lo hi : Int} : inB r lo hi = true ↔ lo ≤ r ∧ r ≤ hi := by simp [inB]
theorem inB_false {r lo hi : Int} : inB r lo hi = false ↔ ¬ (lo ≤ r ∧ r ≤ hi) := by simp [inB]

/-- 'lowerF' with its tests as inequalities. -/
theorem lowerF_eq (r : Int) : lowerF r =
    if (0x41 ≤ r ∧ r ≤ 0x5A) ∨ (0xC0 ≤ r ∧ r ≤ 0xD6) ∨ (0xD8 ≤ r ∧ r ≤ 0xDE) ∨ (0x391 ≤ r ∧ r ≤ 0x3A1) ∨ (0x3A3 ≤ r ∧ r ≤ 0x3AB) ∨ (0x410 ≤ r ∧ r ≤ 0x42F) then r + 0x20
    else if (0x100 ≤ r ∧ r ≤ 0x12F) ∨ (0x132 ≤ r ∧ r ≤ 0x137) ∨ (0x14A ≤ r ∧ r ≤ 0x177) ∨ (0x460 ≤ r ∧ r ≤ 0x481) ∨ (0x48A ≤ r ∧ r ≤ 0x4BF) ∨ (0x4D0 ≤ r ∧ r ≤ 0x52F) then r - r % 2 + 1
    else if (0x139 ≤ r ∧ r ≤ 0x148) ∨ (0x179 ≤ r ∧ r ≤ 0x17E) ∨ (0x4C1 ≤ r ∧ r ≤ 0x4CE) then r + r % 2
    else if 0x388 ≤ r ∧ r ≤ 0x38A then r + 0x25
    else if 0x38E ≤ r ∧ r ≤ 0x38F then r + 0x3F
    else if 0x400 ≤ r ∧ r ≤ 0x40F then r + 0x50
    else if r = 0x178 then 0xFF
    else if r = 0x4C0 then 0x4CF
    else if r = 0x386 then 0x3AC
    else if r = 0x38C then 0x3CC
    else r := by
  unfold lowerF
  simp only [amongB, low1, low2, low3, inB, Bool.or_eq_true, Bool.and_eq_true, decide_eq_true_eq, Bool.false_eq_true, or_false]

def stepF (r odd : Int) : Int := if r % 2 = odd then r + 1 else r

def isA (r : Int) : Prop := (0x41 ≤ r ∧ r ≤ 0x5A) ∨ (0xC0 ≤ r ∧ r ≤ 0xD6) ∨ (0xD8 ≤ r ∧ r ≤ 0xDE) ∨ (0x391 ≤ r ∧ r ≤ 0x3A1) ∨ (0x3A3 ≤ r ∧ r ≤ 0x3AB) ∨ (0x410 ≤ r ∧ r ≤ 0x42F)
def isB (r : Int) : Prop := (0x100 ≤ r ∧ r ≤ 0x12F) ∨ (0x132 ≤ r ∧ r ≤ 0x137) ∨ (0x14A ≤ r ∧ r ≤ 0x177) ∨ (0x460 ≤ r ∧ r ≤ 0x481) ∨ (0x48A ≤ r ∧ r ≤ 0x4BF) ∨ (0x4D0 ≤ r ∧ r ≤ 0x52F)
def isC (r : Int) : Prop := (0x139 ≤ r ∧ r ≤ 0x148) ∨ (0x179 ≤ r ∧ r ≤ 0x17E) ∨ (0x4C1 ≤ r ∧ r ≤ 0x4CE)
theorem low_A (r : Int) (h : isA r) : r + 0x20 = lowerF r := by
  simp only [isA] at *
  rw [lowerF_eq, if_pos h]
theorem low_B (r : Int) (h : isB r) : stepF r 0 = lowerF r := by
  have a : ¬ isA r := by unfold isA isB at *; omega
  simp only [isA, isB] at *
  rw [lowerF_eq, if_neg a, if_pos h, stepF]; split <;> omega
theorem low_C (r : Int) (h : isC r) : stepF r 1 = lowerF r := by
  have a : ¬ isA r := by unfold isA isC at *; omega
  have b : ¬ isB r := by unfold isB isC at *; omega
  simp only [isA, isB, isC] at *
  rw [lowerF_eq, if_neg a, if_neg b, if_pos h, stepF]; split <;> omega
theorem low_D (r : Int) (h : 0x388 ≤ r ∧ r ≤ 0x38A) : r + 0x25 = lowerF r := by
  have a : ¬ isA r := by unfold isA; omega
  have b : ¬ isB r := by unfold isB; omega
  have c : ¬ isC r := by unfold isC; omega
  simp only [isA, isB, isC] at *
  rw [lowerF_eq, if_neg a, if_neg b, if_neg c, if_pos h]
theorem low_E (r : Int) (h : 0x38E ≤ r ∧ r ≤ 0x38F) : r + 0x3F = lowerF r := by
  have a : ¬ isA r := by unfold isA; omega
  have b : ¬ isB r := by unfold isB; omega
  have c : ¬ isC r := by unfold isC; omega
  simp only [isA, isB, isC] at *
  rw [lowerF_eq, if_neg a, if_neg b, if_neg c, if_neg (by omega), if_pos h]
theorem low_F (r : Int) (h : 0x400 ≤ r ∧ r ≤ 0x40F) : r + 0x50 = lowerF r := by
  have a : ¬ isA r := by unfold isA; omega
  have b : ¬ isB r := by unfold isB; omega
  have c : ¬ isC r := by unfold isC; omega
  simp only [isA, isB, isC] at *
  rw [lowerF_eq, if_neg a, if_neg b, if_neg c, if_neg (by omega), if_neg (by omega), if_pos h]
theorem low_178 : lowerF 0x178 = 0xFF := by decide
theorem low_4C0 : lowerF 0x4C0 = 0x4CF := by decide
theorem low_386 : lowerF 0x386 = 0x3AC := by decide
theorem low_38C : lowerF 0x38C = 0x3CC := by decide
theorem low_id (r : Int) (a : ¬ isA r) (b : ¬ isB r) (c : ¬ isC r) (d : ¬ (0x388 ≤ r ∧ r ≤ 0x38A)) (e : ¬ (0x38E ≤ r ∧ r ≤ 0x38F)) (f : ¬ (0x400 ≤ r ∧ r ≤ 0x40F))
    (g1 : ¬ r = 0x178) (g2 : ¬ r = 0x4C0) (g3 : ¬ r = 0x386) (g4 : ¬ r = 0x38C) : r = lowerF r := by
  simp only [isA, isB, isC] at *
  rw [lowerF_eq, if_neg a, if_neg b, if_neg c, if_neg d, if_neg e, if_neg f, if_neg g1, if_neg g2, if_neg g3, if_neg g4]

def isLetter (r : Int) : Prop := (0x41 ≤ r ∧ r ≤ 0x5A) ∨ (0x61 ≤ r ∧ r ≤ 0x7A) ∨ (0xAA ≤ r ∧ r ≤ 0xAA) ∨ (0xB5 ≤ r ∧ r ≤ 0xB5) ∨ (0xBA ≤ r ∧ r ≤ 0xBA) ∨ (0xC0 ≤ r ∧ r ≤ 0xD6) ∨ (0xD8 ≤ r ∧ r ≤ 0xF6) ∨ (0xF8 ≤ r ∧ r ≤ 0x2AF) ∨ (0x370 ≤ r ∧ r ≤ 0x373) ∨ (0x376 ≤ r ∧ r ≤ 0x377) ∨ (0x37B ≤ r ∧ r ≤ 0x37D) ∨ (0x37F ≤ r ∧ r ≤ 0x37F) ∨ (0x386 ≤ r ∧ r ≤ 0x386) ∨ (0x388 ≤ r ∧ r ≤ 0x38A) ∨ (0x38C ≤ r ∧ r ≤ 0x38C) ∨ (0x38E ≤ r ∧ r ≤ 0x3A1) ∨ (0x3A3 ≤ r ∧ r ≤ 0x3F5) ∨ (0x3F7 ≤ r ∧ r ≤ 0x481) ∨ (0x48A ≤ r ∧ r ≤ 0x52F) ∨ (0x5D0 ≤ r ∧ r ≤ 0x5EA) ∨ (0x620 ≤ r ∧ r ≤ 0x64A) ∨ (0x904 ≤ r ∧ r ≤ 0x939) ∨ (0x3041 ≤ r ∧ r ≤ 0x3096) ∨ (0x30A1 ≤ r ∧ r ≤ 0x30FA) ∨ (0x4E00 ≤ r ∧ r ≤ 0x9FFF) ∨ (0xAC00 ≤ r ∧ r ≤ 0xD7A3)
theorem letter_iff (r : Int) : letterF r = true ↔ isLetter r := by
  unfold letterF isLetter
  simp only [amongB, letters, inB, Bool.or_eq_true, Bool.and_eq_true, decide_eq_true_eq, Bool.false_eq_true, or_false]
theorem letter_true (r : Int) (h : isLetter r) : letterF r = true := (letter_iff r).2 h
theorem letter_false (r : Int) (h : ¬ isLetter r) : letterF r = false := by
  cases e : letterF r
  · rfl
  · exact absurd ((letter_iff r).1 e) h

def isDigit (r : Int) : Prop := (0x30 ≤ r ∧ r ≤ 0x39) ∨ (0x660 ≤ r ∧ r ≤ 0x669) ∨ (0x966 ≤ r ∧ r ≤ 0x96F) ∨ (0xFF10 ≤ r ∧ r ≤ 0xFF19)
theorem digit_iff (r : Int) : digitF r = true ↔ isDigit r := by
  unfold digitF isDigit
  simp only [amongB, digits, inB, Bool.or_eq_true, Bool.and_eq_true, decide_eq_true_eq, Bool.false_eq_true, or_false]
theorem digit_true (r : Int) (h : isDigit r) : digitF r = true := (digit_iff r).2 h
theorem digit_false (r : Int) (h : ¬ isDigit r) : digitF r = false := by
  cases e : digitF r
  · rfl
  · exact absurd ((digit_iff r).1 e) h

def isMark (r : Int) : Prop := (0x300 ≤ r ∧ r ≤ 0x36F) ∨ (0x483 ≤ r ∧ r ≤ 0x489) ∨ (0x591 ≤ r ∧ r ≤ 0x5BD) ∨ (0x64B ≤ r ∧ r ≤ 0x65F) ∨ (0x93C ≤ r ∧ r ≤ 0x93C) ∨ (0x20D0 ≤ r ∧ r ≤ 0x20F0) ∨ (0xFE20 ≤ r ∧ r ≤ 0xFE2F)
theorem mark_iff (r : Int) : markF r = true ↔ isMark r := by
  unfold markF isMark
  simp only [amongB, marks, inB, Bool.or_eq_true, Bool.and_eq_true, decide_eq_true_eq, Bool.false_eq_true, or_false]
theorem mark_true (r : Int) (h : isMark r) : markF r = true := (mark_iff r).2 h
theorem mark_false (r : Int) (h : ¬ isMark r) : markF r = false := by
  cases e : markF r
  · rfl
  · exact absurd ((mark_iff r).1 e) h

end FoldP
end
section
namespace FoldP
open Go.Lib Go

theorem map_inj_toNat : ∀ (a b : List UInt8), a.map (fun x => (x.toNat : Int)) = b.map (fun x => (x.toNat : Int)) → a = b
  | [], [], _ => rfl
  | [], _ :: _, h => by simp at h
  | _ :: _, [], h => by simp at h
  | x :: a, y :: b, h => by
    simp only [List.map_cons, List.cons.injEq] at h
    have : x = y := UInt8.toNat_inj.1 (by omega)
    rw [this, map_inj_toNat a b h.2]

theorem enc_map (r : Int) : (encodeRune r).map (fun x => (x.toNat : Int)) = encodeRuneZ r := by
  unfold encodeRune
  rw [List.map_map]
  conv => rhs; rw [← List.map_id (encodeRuneZ r)]
  apply List.map_congr_left
  intro x hx
  have := encodeRuneZ_byte r x hx
  show ((x.toNat.toUInt8).toNat : Int) = x
  have e : x.toNat.toUInt8.toNat = x.toNat % 256 := by simp
  rw [e]; omega

theorem enc_iff (r : Int) (q : List UInt8) : encodeRune r = q ↔ encodeRuneZ r = q.map (fun x => (x.toNat : Int)) := by
  constructor
  · rintro rfl; exact (enc_map r).symm
  · intro h; apply map_inj_toNat; rw [enc_map, h]

def odd : Nat × Nat := (65533, 1)

/-- A first byte below 128 is the rune. -/
theorem dec_ascii (l : List UInt8) (h : (l.getD 0 0).toNat < 128) : decodeL l = ((l.getD 0 0).toNat, 1) := by
  rw [decodeL_N, decodeN, if_pos h]
/-- A first byte that opens no form. -/
theorem dec_odd (l : List UInt8) (h : (128 ≤ (l.getD 0 0).toNat ∧ (l.getD 0 0).toNat < 192) ∨ 248 ≤ (l.getD 0 0).toNat) : decodeL l = odd := by
  have k0 := (l.getD 0 0).toNat_lt
  rw [decodeL_N, decodeN, if_neg (by omega), if_neg (by omega), if_neg (by omega), if_neg (by omega)]; rfl
/-- Too few bytes. -/
theorem dec_short (l : List UInt8) (n : Nat) (h : (n = 2 ∧ 192 ≤ (l.getD 0 0).toNat ∧ (l.getD 0 0).toNat < 224) ∨ (n = 3 ∧ 224 ≤ (l.getD 0 0).toNat ∧ (l.getD 0 0).toNat < 240) ∨ (n = 4 ∧ 240 ≤ (l.getD 0 0).toNat ∧ (l.getD 0 0).toNat < 248))
    (hl : l.length < n) : decodeL l = odd := by
  rw [decodeL_N, decodeN, if_neg (by omega), if_neg (by omega), if_neg (by omega), if_neg (by omega)]; rfl

/-- What the document's answer holds against the text: the number out of the bytes, its form against them. -/
def acc (l : List UInt8) (r0 : Int) : Nat → Int
  | 0 => r0
  | k + 1 => acc l r0 k * 64 + ((l.getD (k + 1) 0).toNat % 64 : Nat)

def good (l : List UInt8) (r : Int) (n : Nat) : Bool := Lib.validRune r && decide (encodeRune r = l.take n)

theorem dec_two (l : List UInt8) (h : 192 ≤ (l.getD 0 0).toNat ∧ (l.getD 0 0).toNat < 224) (hl : 2 ≤ l.length) :
    (good l (acc l (((l.getD 0 0).toNat : Int) - 192) 1) 2 = true → decodeL l = ((acc l (((l.getD 0 0).toNat : Int) - 192) 1).toNat, 2) ∧ 0 ≤ acc l (((l.getD 0 0).toNat : Int) - 192) 1) ∧
    (good l (acc l (((l.getD 0 0).toNat : Int) - 192) 1) 2 = false → decodeL l = odd) := by
  have k0 := (l.getD 0 0).toNat_lt
  have k1 := (l.getD 1 0).toNat_lt
  rw [decodeL_N]
  unfold good
  rw [takeB l (by omega)]
  simp only [acc, enc_iff, List.map_cons, List.map_nil]
  generalize (l.getD 0 0).toNat = b0 at *
  generalize (l.getD 1 0).toNat = b1 at *
  generalize (l.getD 2 0).toNat = b2 at *
  generalize (l.getD 3 0).toNat = b3 at *
  have hd : decodeN l.length b0 b1 b2 b3 = if b1 / 64 = 2 ∧ 128 ≤ b0 % 32 * 64 + b1 % 64 then (b0 % 32 * 64 + b1 % 64, 2) else odd := by
    unfold decodeN odd
    rw [if_neg (by omega)]
    by_cases c : b1 / 64 = 2
    · rw [if_pos (by omega)]
      by_cases d : b0 % 32 * 64 + b1 % 64 ≥ 128
      · rw [if_pos d, if_pos ⟨c, d⟩]
      · rw [if_neg d, if_neg (by omega)]
    · rw [if_neg (by omega), if_neg (by omega), if_neg (by omega), if_neg (by omega)]
  rw [hd]
  have hv : Lib.validRune (((b0 : Int) - 192) * 64 + ((b1 % 64 : Nat) : Int)) = true := by unfold Lib.validRune; simp; omega
  rw [hv, Bool.true_and, decide_eq_true_eq, decide_eq_false_iff_not]
  by_cases c : 128 ≤ b0 % 32 * 64 + b1 % 64
  · rw [encodeRuneZ_two (by omega) (by omega)]
    simp only [List.cons.injEq, and_true]
    constructor
    · intro e; rw [if_pos (by omega)]; exact ⟨Prod.ext (by simp only; omega) rfl, by omega⟩
    · intro e; rw [if_neg (by omega)]
  · rw [encodeRuneZ_one (by omega) (by omega)]
    constructor
    · intro e; simp at e
    · intro e; rw [if_neg (by omega)]

theorem dec_three (l : List UInt8) (h : 224 ≤ (l.getD 0 0).toNat ∧ (l.getD 0 0).toNat < 240) (hl : 3 ≤ l.length) :
    (good l (acc l (((l.getD 0 0).toNat : Int) - 224) 2) 3 = true → decodeL l = ((acc l (((l.getD 0 0).toNat : Int) - 224) 2).toNat, 3) ∧ 0 ≤ acc l (((l.getD 0 0).toNat : Int) - 224) 2) ∧
    (good l (acc l (((l.getD 0 0).toNat : Int) - 224) 2) 3 = false → decodeL l = odd) := by
  have k0 := (l.getD 0 0).toNat_lt
  have k1 := (l.getD 1 0).toNat_lt
  have k2 := (l.getD 2 0).toNat_lt
  rw [decodeL_N]
  unfold good
  rw [takeC l (by omega)]
  simp only [acc, enc_iff, List.map_cons, List.map_nil]
  generalize (l.getD 0 0).toNat = b0 at *
  generalize (l.getD 1 0).toNat = b1 at *
  generalize (l.getD 2 0).toNat = b2 at *
  generalize (l.getD 3 0).toNat = b3 at *
  generalize hc : b0 % 16 * 4096 + b1 % 64 * 64 + b2 % 64 = c at *
  have hd : decodeN l.length b0 b1 b2 b3 = if b1 / 64 = 2 ∧ b2 / 64 = 2 ∧ 2048 ≤ c ∧ (c < 55296 ∨ 57344 ≤ c) then (c, 3) else odd := by
    unfold decodeN odd
    rw [if_neg (by omega), if_neg (by omega), hc]
    by_cases d : b1 / 64 = 2 ∧ b2 / 64 = 2
    · rw [if_pos (by omega)]
      by_cases e : 2048 ≤ c ∧ (c < 55296 ∨ 57344 ≤ c)
      · rw [if_pos (by omega), if_pos ⟨d.1, d.2, e⟩]
      · rw [if_neg (by omega), if_neg (by omega)]
    · rw [if_neg (by omega), if_neg (by omega), if_neg (by omega)]
  rw [hd]
  have hr : (((b0 : Int) - 224) * 64 + ((b1 % 64 : Nat) : Int)) * 64 + ((b2 % 64 : Nat) : Int) = (c : Int) := by omega
  rw [hr]
  have hc6 : c < 65536 := by omega
  by_cases hs : c < 55296 ∨ 57344 ≤ c
  · have hv : Lib.validRune (c : Int) = true := by unfold Lib.validRune; simp; omega
    rw [hv, Bool.true_and, decide_eq_true_eq, decide_eq_false_iff_not]
    by_cases h2 : 2048 ≤ c
    · rw [encodeRuneZ_three (by omega)]
      simp only [List.cons.injEq, and_true]
      constructor
      · intro e; rw [if_pos (by omega)]; exact ⟨Prod.ext (by simp only; omega) rfl, by omega⟩
      · intro e; rw [if_neg (by omega)]
    · have hlen : (encodeRuneZ (c : Int)).length ≤ 2 := by
        by_cases h1 : c < 128
        · rw [encodeRuneZ_one (by omega) (by omega)]; simp
        · rw [encodeRuneZ_two (by omega) (by omega)]; simp
      constructor
      · intro e; rw [e] at hlen; simp at hlen
      · intro e; rw [if_neg (by omega)]
  · have hv : Lib.validRune (c : Int) = false := by unfold Lib.validRune; simp; omega
    rw [hv, Bool.false_and]
    exact ⟨fun e => (Bool.noConfusion e), fun _ => by rw [if_neg (by omega)]⟩

theorem dec_four (l : List UInt8) (h : 240 ≤ (l.getD 0 0).toNat ∧ (l.getD 0 0).toNat < 248) (hl : 4 ≤ l.length) :
    (good l (acc l (((l.getD 0 0).toNat : Int) - 240) 3) 4 = true → decodeL l = ((acc l (((l.getD 0 0).toNat : Int) - 240) 3).toNat, 4) ∧ 0 ≤ acc l (((l.getD 0 0).toNat : Int) - 240) 3) ∧
    (good l (acc l (((l.getD 0 0).toNat : Int) - 240) 3) 4 = false → decodeL l = odd) := by
  have k0 := (l.getD 0 0).toNat_lt
  have k1 := (l.getD 1 0).toNat_lt
  have k2 := (l.getD 2 0).toNat_lt
  have k3 := (l.getD 3 0).toNat_lt
  rw [decodeL_N]
  unfold good
  rw [takeD l (by omega)]
  simp only [acc, enc_iff, List.map_cons, List.map_nil]
  generalize (l.getD 0 0).toNat = b0 at *
  generalize (l.getD 1 0).toNat = b1 at *
  generalize (l.getD 2 0).toNat = b2 at *
  generalize (l.getD 3 0).toNat = b3 at *
  generalize hc : b0 % 8 * 262144 + b1 % 64 * 4096 + b2 % 64 * 64 + b3 % 64 = c at *
  have hd : decodeN l.length b0 b1 b2 b3 = if b1 / 64 = 2 ∧ b2 / 64 = 2 ∧ b3 / 64 = 2 ∧ 65536 ≤ c ∧ c ≤ 1114111 then (c, 4) else odd := by
    unfold decodeN odd
    rw [if_neg (by omega), if_neg (by omega), if_neg (by omega), hc]
    by_cases d : b1 / 64 = 2 ∧ b2 / 64 = 2 ∧ b3 / 64 = 2
    · rw [if_pos (by omega)]
      by_cases e : 65536 ≤ c ∧ c ≤ 1114111
      · rw [if_pos (by omega), if_pos ⟨d.1, d.2.1, d.2.2, e⟩]
      · rw [if_neg (by omega), if_neg (by omega)]
    · rw [if_neg (by omega), if_neg (by omega)]
  rw [hd]
  have hr : ((((b0 : Int) - 240) * 64 + ((b1 % 64 : Nat) : Int)) * 64 + ((b2 % 64 : Nat) : Int)) * 64 + ((b3 % 64 : Nat) : Int) = (c : Int) := by omega
  rw [hr]
  by_cases hs : c < 55296 ∨ (57344 ≤ c ∧ c ≤ 1114111)
  · have hv : Lib.validRune (c : Int) = true := by unfold Lib.validRune; simp; omega
    rw [hv, Bool.true_and, decide_eq_true_eq, decide_eq_false_iff_not]
    by_cases h2 : 65536 ≤ c
    · rw [encodeRuneZ_four (by omega) (by omega)]
      simp only [List.cons.injEq, and_true]
      constructor
      · intro e; rw [if_pos (by omega)]; exact ⟨Prod.ext (by simp only; omega) rfl, by omega⟩
      · intro e; rw [if_neg (by omega)]
    · have hlen : (encodeRuneZ (c : Int)).length ≤ 3 := by
        by_cases h1 : c < 128
        · rw [encodeRuneZ_one (by omega) (by omega)]; simp
        · by_cases h3 : c < 2048
          · rw [encodeRuneZ_two (by omega) (by omega)]; simp
          · rw [encodeRuneZ_three (by omega)]; simp
      constructor
      · intro e; rw [e] at hlen; simp at hlen
      · intro e; rw [if_neg (by omega)]
  · have hv : Lib.validRune (c : Int) = false := by unfold Lib.validRune; simp; omega
    rw [hv, Bool.false_and]
    exact ⟨fun e => (Bool.noConfusion e), fun _ => by rw [if_neg (by omega)]⟩

/-- 'Next': the rune at a place, and how many bytes it has. -/
def nextF (l : List UInt8) (at_ : Int) : Int × Int :=
  if 0 ≤ at_ ∧ at_ < l.length then (((decodeL (l.drop at_.toNat)).1 : Int), ((decodeL (l.drop at_.toNat)).2 : Int)) else (0, 0)

end FoldP
end
