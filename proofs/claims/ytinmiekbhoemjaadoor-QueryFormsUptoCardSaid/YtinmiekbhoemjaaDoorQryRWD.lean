/- The document's write: its pieces, rows of bytes beside one another, and what is gathered of them. -/
import Derived.Test.YtinmiekbhoemjaaDoorPack19
import Derived.Test.YtinmiekbhoemjaaDoorQryWS2
set_option linter.unusedVariables false
namespace Go.Proofs.YtinmiekbhoemjaaDoor.Qry
open Go.RowKit Words Tree QryP Kit Owned

/-- A row of bytes is answered, in memory of the call's own. -/
def RowBX (l : List UInt8) (w : World) (e : Ending) (w' : World) : Prop := ∃ v, e = .returned v ∧ OwnX w' w.heap.size 5 1 v l.length (Lib.byteCells l) ∧ Below w.heap.size w w'
theorem RowBX.of {l : List UInt8} {w w' : World} {e : Ending} (h : RowB l w e w') : RowBX l w e w' := by
  obtain ⟨v, h1, h2, h3⟩ := h
  exact ⟨v, h1, OwnX.of h2, h3⟩
/-- A piece: a row of bytes in a block from lo on, below hi. -/
def Elt (w : World) (lo hi : Nat) (x : Value) (p : List UInt8) : Prop := ∃ A c, x = .slice A p.length c ∧ (0 < p.length → ∃ ad cur fz, A = some ad ∧ lo ≤ ad.block ∧ ad.block < hi ∧ w.heap[ad.block]? = some (.cells cur 5 fz) ∧ Cells w ad (Lib.byteCells p))
section
variable {w w' : World} {lo hi : Nat} {x : Value} {p : List UInt8}
theorem Elt.keep (h : Elt w lo hi x p) (hk : ∀ g, lo ≤ g → g < hi → (∃ cur fz, w.heap[g]? = some (.cells cur 5 fz)) → w'.heap[g]? = w.heap[g]?) : Elt w' lo hi x p := by
  obtain ⟨A, c, hx, h⟩ := h
  refine ⟨A, c, hx, fun hp => ?_⟩
  obtain ⟨ad, cur, fz, e, h1, h2, h3, h4⟩ := h hp
  have := hk ad.block h1 h2 ⟨cur, fz, h3⟩
  exact ⟨ad, cur, fz, e, h1, h2, this.trans h3, h4.keep fun q hq => World.cell?_of_block (by rw [hq]; exact this)⟩
theorem Elt.more {hi' : Nat} (h : Elt w lo hi x p) (hh : hi ≤ hi') : Elt w lo hi' x p := by
  obtain ⟨A, c, hx, h⟩ := h
  refine ⟨A, c, hx, fun hp => ?_⟩
  obtain ⟨ad, cur, fz, e, h1, h2, h3⟩ := h hp
  exact ⟨ad, cur, fz, e, h1, by omega, h3⟩
theorem Elt.below (h : Elt w lo hi x p) (hb : Below w.heap.size w w') (hh : hi ≤ w.heap.size) : Elt w' lo w'.heap.size x p := (h.keep fun g _ h2 _ => hb.block g (by omega)).more (by have := hb.size; omega)
theorem Elt.ofX {B : Nat} (h : OwnX w B 5 1 x p.length (Lib.byteCells p)) (hB : lo ≤ B) : Elt w lo w.heap.size x p := by
  rcases h.2 with ⟨rfl, h0⟩ | ⟨g, cap, cur, fz, rfl, h1, h2, h3⟩
  · exact ⟨none, 0, by rw [h0], fun hp => by omega⟩
  · exact ⟨_, _, rfl, fun hp => ⟨_, cur, fz, rfl, Nat.le_trans hB h1, (Array.getElem?_eq_some_iff.1 h2).1, h2, h.cells (g := g) rfl⟩⟩
theorem Elt.slice (h : Elt w lo hi x p) : ∃ A c, x = .slice A p.length c := by obtain ⟨A, c, hx, _⟩ := h; exact ⟨A, c, hx⟩
theorem Elt.reads {A : Option Addr} {n c : Nat} (h : Elt w lo hi (.slice A n c) p) : Reads w hi 1 A p.length (Lib.byteCells p) := by
  obtain ⟨A', c', hx, h⟩ := h
  injection hx with h1 h2 h3
  subst h1
  refine ⟨by simp [Lib.byteCells], fun hn => ?_⟩
  obtain ⟨ad, _, _, e, _, h5, _, h6⟩ := h hn
  exact ⟨ad, e, h5, h6⟩
end
theorem Elt.one {w : World} {lo hi : Nat} {x : Value} {p : List UInt8} (h : Elt w lo hi x p) : x.oneCell' = true := by obtain ⟨A, c, rfl, _⟩ := h; rfl
/-- The pieces gathered so far. -/
def Parts (lo : Nat) (w : World) (v : Value) (ps : List (List UInt8)) : Prop := ∃ xs : List Value, w.ownsRow lo 43 1 v ps.length xs ∧ xs.length = ps.length ∧ ∀ (i : Nat) (x : Value) (p : List UInt8), xs[i]? = some x → ps[i]? = some p → Elt w lo w.heap.size x p
section
variable {w w' : World} {lo : Nat} {v v' : Value} {ps : List (List UInt8)}
theorem Parts.nil (w : World) (lo : Nat) : Parts lo w (.slice none 0 0) [] := ⟨[], World.ownsRow_nil _ _ _ _, rfl, fun i x p h => by simp at h⟩
theorem Parts.below (h : Parts lo w v ps) (hb : Below w.heap.size w w') : Parts lo w' v ps := by
  obtain ⟨xs, h1, h2, h3⟩ := h
  exact ⟨xs, own_below h1 hb, h2, fun i x p hx hp => (h3 i x p hx hp).below hb (Nat.le_refl _)⟩
theorem Parts.slice (h : Parts lo w v ps) : ∃ A c, v = .slice A ps.length c := by obtain ⟨xs, h1, _⟩ := h; exact own_slice h1
theorem parts_one {x : Value} {p : List UInt8} {xs : List Value} (h : ∀ (i : Nat) (x : Value) (p : List UInt8), xs[i]? = some x → ps[i]? = some p → Elt w lo w.heap.size x p) (hl : xs.length = ps.length) (hx : Elt w lo w.heap.size x p) : ∀ (i : Nat) (y : Value) (q : List UInt8), (xs ++ [x])[i]? = some y → (ps ++ [p])[i]? = some q → Elt w lo w.heap.size y q := by
  intro i y q hy hq
  rcases Nat.lt_or_ge i xs.length with hi | hi
  · rw [List.getElem?_append_left hi] at hy
    rw [List.getElem?_append_left (by omega)] at hq
    exact h i y q hy hq
  · have hlt := (List.getElem?_eq_some_iff.1 hy).1
    have : i = xs.length := by simp at hlt; omega
    subst this
    rw [List.getElem?_append_right (Nat.le_refl _)] at hy
    rw [List.getElem?_append_right (by omega), hl] at hq
    simp only [Nat.sub_self, List.getElem?_cons_zero, Option.some.injEq] at hy hq
    subst hy hq
    exact hx
/-- More pieces behind it. -/
theorem parts_more {xs news : List Value} {ps' : List (List UInt8)} (ho : w.ownsRow lo 43 1 v ps.length xs) (hl : news.length = ps'.length) (hx : ∀ (i : Nat) (x : Value) (p : List UInt8), (xs ++ news)[i]? = some x → (ps ++ ps')[i]? = some p → Elt w lo w.heap.size x p)
    (ho' : w'.ownsRow lo 43 1 v' (ps.length + news.length) (xs ++ news)) (hg : w.grownBy w' v.ownBlock) : Parts lo w' v' (ps ++ ps') := by
  refine ⟨xs ++ news, by rw [List.length_append, ← hl]; exact ho', by have := own_len ho; simp; omega, fun i x p h1 h2 => ?_⟩
  refine ((hx i x p h1 h2).keep fun g _ h4 h5 => hg.block g h4 fun e => ?_).more hg.size
  obtain ⟨cur, fz, h5⟩ := h5
  rcases ho.2 with ⟨rfl, _⟩ | ⟨g', cap, cur', rfl, _, hh, _⟩
  · cases e
  · have : g = g' := by simpa [Value.ownBlock] using e
    subst this
    rw [hh] at h5
    injection h5 with h5
    injection h5 with _ h6
    exact absurd h6 (by decide)
end
theorem joinF_last (sep : List UInt8) : ∀ (l : List (List UInt8)) (x : List UInt8), x.length ≤ (joinF sep (l ++ [x])).length
  | [], x => by simp [joinF]
  | a :: l, x => by
    rw [joinF_snoc]
    split
    · exact Nat.le_refl _
    · simp only [List.length_append]; omega
theorem part_le {ps rest : List (List UInt8)} {x : List UInt8} {all : List (List UInt8)} (e : all = (ps ++ [x]) ++ rest) : x.length ≤ (joinF [44, 32] all).length := by
  rw [e]; exact Nat.le_trans (joinF_last _ ps x) (joinF_pre _ _ _)
/-- What is asked of a part to be written by the document. -/
structure RAsk (kd oc : Int) (f t u : ByteArray) (lo hi : List Int) (bo op : Int) (ks : List QT) (L Hh K : Option Addr) (ck : Nat) (w : World) : Prop where
  low : Reads w w.heap.size 1 L lo.length (lo.map (Value.int .i64))
  high : Reads w w.heap.size 1 Hh hi.length (hi.map (Value.int .i64))
  kids : T.At bare w (fun g => g < w.heap.size) (.arr 10 ks.length (cellsL ks)) (.slice K ks.length ck)
  len : (writeF numT (.mk kd oc f t u lo hi bo op ks)).length + 400 ≤ maxW
  ok : Ok (.mk kd oc f t u lo hi bo op ks)
  occ : ∀ k ∈ ks, (kd = 8 → 1 ≤ QryP.oc k ∧ QryP.oc k ≤ 4) ∧ (kd ≠ 8 → QryP.oc k = 0)
  down : ∀ k ∈ ks, ∀ (vs : List Value) (W : World), T.AtL bare W (fun g => g < W.heap.size) (cells k) vs → Calls Tryd.prog 28 #[.agg vs.toArray] W (RowBX (writeF numT k) W)
theorem reads_new (w : World) (t : TypeId) (cs : List Value) (n : Nat) (hn : cs.length = n) : Reads (w.alloc (.cells cs.toArray t)) (w.heap.size + 1) 1 (some ⟨w.heap.size, 0, none⟩) n cs := by
  subst hn
  exact ⟨by simp, fun _ => ⟨_, rfl, Nat.lt_succ_self _, World.news_of_block (Blk.new w t cs.toArray)⟩⟩
/-- The bytes l are gathered behind one another, in a block that holds no piece. -/
structure Jn (LO : Nat) (WH w : World) (l : List UInt8) (vb : Value) (wr : World) : Prop where
  own : OwnX wr w.heap.size 5 1 vb l.length (Lib.byteCells l)
  far : ∀ g, vb.ownBlock = some g → g < LO ∨ WH.heap.size ≤ g
  below : Below w.heap.size w wr
  kept : ∀ g, LO ≤ g → g < WH.heap.size → wr.heap[g]? = WH.heap[g]?
  size : WH.heap.size ≤ wr.heap.size
  base : w.heap.size ≤ wr.heap.size
section
variable {LO : Nat} {WH w wr w' : World} {l p : List UInt8} {vb vb' : Value}
theorem Jn.alloc (h : Jn LO WH w l vb wr) (o : Obj) : Jn LO WH w l vb (wr.alloc o) :=
  ⟨h.own.below ((Below.refl _ _).alloc (Nat.le_refl _) o) (Nat.le_refl _), h.far, h.below.alloc h.base o, fun g h1 h2 => (Below.heap_alloc wr o g (by have := h.size; omega)).trans (h.kept g h1 h2), by have := h.size; simp; omega, by have := h.base; simp; omega⟩
theorem Jn.app (h : Jn LO WH w l vb wr) (ho : OwnX w' w.heap.size 5 1 vb' (l.length + p.length) (Lib.byteCells l ++ Lib.byteCells p)) (hg : wr.grownBy w' vb.ownBlock) (hv : vb'.ownBlock = vb.ownBlock ∨ vb'.ownBlock = some wr.heap.size) : Jn LO WH w (l ++ p) vb' w' := by
  refine ⟨?_, fun g e => ?_, h.below.grown hg h.base (fun r e => (h.own.lt r e).1), fun g h1 h2 => ?_, Nat.le_trans h.size hg.size, Nat.le_trans h.base hg.size⟩
  · rw [List.length_append]
    have : Lib.byteCells (l ++ p) = Lib.byteCells l ++ Lib.byteCells p := by simp [Lib.byteCells]
    rw [this]; exact ho
  · rcases hv with hv | hv
    · exact h.far g (hv ▸ e)
    · rw [hv] at e; cases e; exact .inr h.size
  · refine (hg.block g (by have := h.size; omega) fun e => ?_).trans (h.kept g h1 h2)
    have := h.far g e.symm
    omega
/-- The piece k of those that were gathered. -/
theorem parts_at {ps : List (List UInt8)} {A : Option Addr} {n c : Nat} (hP : Parts LO WH (.slice A n c) ps) (h : Jn LO WH w l vb wr) {k : Nat} (hk : k < ps.length) :
    ∃ g x B m, A = some ⟨g, 0, none⟩ ∧ n = ps.length ∧ wr.cell? ⟨g, k, none⟩ = some (.slice x ps[k].length m) ∧ Reads wr B 1 x ps[k].length (Lib.byteCells ps[k]) := by
  obtain ⟨xs, ho, hl, he⟩ := hP
  obtain ⟨A', c', hA⟩ := own_slice ho
  injection hA with hA1 hA2 hA3
  subst hA2
  obtain ⟨g, hg, h1, h2, h3⟩ := own_cell ho hk
  subst hg
  have hkx : k < xs.length := by omega
  have hE := he k xs[k] ps[k] (List.getElem?_eq_getElem hkx) (List.getElem?_eq_getElem hk)
  have hE' : Elt wr LO WH.heap.size xs[k] ps[k] := hE.keep fun g h4 h5 _ => h.kept g h4 h5
  obtain ⟨B, m, hx⟩ := hE.slice
  rw [hx] at hE'
  refine ⟨g, B, _, m, rfl, rfl, ?_, hE'.reads⟩
  have hc := World.cell?_of_block (w := WH) (w' := wr) (a := ⟨g, k, none⟩) (h.kept g h1 h2)
  rw [hc, ← hx]
  exact h3 k _ (List.getElem?_eq_getElem hkx)
end
theorem cells_one {l : List UInt8} : ∀ u ∈ Lib.byteCells l, u.oneCell' = true := by
  intro u hu
  simp only [Lib.byteCells, List.mem_map] at hu
  obtain ⟨b, _, rfl⟩ := hu
  rfl
theorem kids_takeR {ks : List QT} {k : Nat} (h : k < ks.length) : (writeL numT ks).take (k + 1) = (writeL numT ks).take k ++ [markF (QryP.oc ks[k]) ++ writeF numT ks[k]] := by
  rw [writeL_eq, ← List.map_take, ← List.map_take, List.take_succ_eq_append_getElem h, List.map_append]; rfl
theorem kid_part {ks : List QT} {k : Nat} {pc : List (List UInt8)} (h : k < ks.length) : (markF (QryP.oc ks[k]) ++ writeF numT ks[k]).length ≤ (joinF [44, 32] (pc ++ writeL numT ks)).length :=
  part_le (all := pc ++ writeL numT ks) (ps := pc ++ (writeL numT ks).take k) (x := markF (QryP.oc ks[k]) ++ writeF numT ks[k]) (rest := (writeL numT ks).drop (k + 1)) (by
    rw [List.append_assoc pc, ← kids_takeR h, List.append_assoc, List.take_append_drop])
theorem join_take {ps : List (List UInt8)} {j : Nat} (h : j < ps.length) : joinF [44, 32] (ps.take (j + 1)) = (if j = 0 then ps[j] else joinF [44, 32] (ps.take j) ++ [44, 32] ++ ps[j]) := by
  rw [List.take_succ_eq_append_getElem h, joinF_snoc]
  by_cases hj : j = 0
  · subst hj; simp
  · rw [if_neg hj, if_neg (by intro e; have := congrArg List.length e; rw [List.length_take] at this; simp only [List.length_nil] at this; omega)]
theorem join_le (ps : List (List UInt8)) (j : Nat) : (joinF [44, 32] (ps.take j)).length ≤ (joinF [44, 32] ps).length := by
  have := joinF_pre [44, 32] (ps.take j) (ps.drop j)
  rwa [List.take_append_drop] at this
theorem writeL_len (ks : List QT) : (writeL numT ks).length = ks.length := by rw [writeL_eq]; simp
theorem infoS8 : (Tryd.prog.info? 43).map (fun i => (i.zero, i.size, i.bytes)) = some (some (.slice none 0 0), 1, 24) := by kernel_rfl
end Go.Proofs.YtinmiekbhoemjaaDoor.Qry
