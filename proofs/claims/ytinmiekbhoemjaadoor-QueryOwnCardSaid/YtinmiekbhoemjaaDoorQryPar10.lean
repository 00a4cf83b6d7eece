/- What stands while a kid is appended. -/
import Derived.Test.YtinmiekbhoemjaaDoorQryPar9
set_option linter.unusedVariables false
namespace Go.Proofs.YtinmiekbhoemjaaDoor.Qry
open Go.RowKit Words Tree QryP Kit Sch SchP Owned

/-- A query is answered, in memory of its own. -/
def QV (B : Nat) (q : QT) (v : Value) (w : World) : Prop := ∃ us bs, v = .agg us.toArray ∧ OQ w B q us bs ∧ bs.Nodup
/-- query's contract at so many above. -/
def QueryC (B : Nat) (s : ByteArray) (above : Nat) : Prop := ∀ (gp k : Nat) (w : World), Pa s gp k w → B ≤ gp → PT B w →
  Calls Tryd.prog 32 #[.pointer (some ⟨gp, 0, none⟩), .int .i64 above] w (Out s gp k w (queryS numT parT (6 - above) (rem s k)) (QV w.heap.size))
def addK : QT → QT → QT
  | .mk k o f t u lo hi b op ks, q => .mk k o f t u lo hi b op (ks ++ [q])
def kidS (q : QT) : E (QT × R) → E (QT × R)
  | .error e => .error e
  | .ok (q', r) => .ok (addK q q', r)
theorem own_put {w : World} {B n m g cap i : Nat} {e : TypeId} {xs : List Value} (h : w.ownsRow B e m (.slice (some ⟨g, 0, none⟩) n cap) n xs) (u : Value) : (w.setCell ⟨g, i, none⟩ u).ownsRow B e m (.slice (some ⟨g, 0, none⟩) n cap) n (xs.set i u) := by
  obtain ⟨hl, h⟩ := h
  refine ⟨by rw [List.length_set]; exact hl, .inr ?_⟩
  rcases h with ⟨h, _⟩ | ⟨g', cap', cur, hv, hB, hg, hc, hm, hs, ht⟩
  · cases h
  · injection hv with e1 e2 e3
    injection e1 with e1
    injection e1 with e1
    subst e1
    subst e3
    refine ⟨g, cap, cur.setIfInBounds i u, rfl, hB, Blk.set_ hg i u, hc, hm, by simpa using hs, ?_⟩
    rw [Array.toList_setIfInBounds, List.take_set, ht]
/-- While a kid is appended: the row of kids lies in block g3, its last element's cells are els. -/
structure KF (s : ByteArray) (gp : Nat) (w0 : World) (gq above j : Nat) (lo hi : List Int) (ks : List QT) (vl vh : Value) (xs : List Value) (bk : List Nat) (q' : QT) (us' : List Value) (b1 : List Nat) (g3 cap3 : Nat) (us els : List Value) (W : World) : Prop where
  pa : Pa s gp j W
  grown : w0.grownBy W (some gp)
  bp : Blk W w0.heap.size 53 #[.pointer (some ⟨gp, 0, none⟩)]
  ba : Blk W (w0.heap.size + 1) 3 #[.int .i64 above]
  br : Blk W (w0.heap.size + 2) 25 zeroQ
  bq : Blk W gq 25 us.toArray
  rl : RowI W (gq + 1) vl lo
  rh : RowI W (gq + 1) vh hi
  rk : W.ownsRow (gq + 1) 25 10 (.slice (some ⟨g3, 0, none⟩) (ks.length + 1) cap3) (ks.length + 1) (xs ++ els)
  ol : OQL W (gq + 1) ks xs bk
  oq : OQ W (gq + 1) q' us' b1
  hq : w0.heap.size + 2 < gq
  hp : gp < w0.heap.size
  g3l : vl.ownBlock ≠ some g3
  g3h : vh.ownBlock ≠ some g3
  g3k : g3 ∉ bk
  g31 : g3 ∉ b1
section
variable {s : ByteArray} {gp gq above j g3 cap3 : Nat} {w0 W : World} {lo hi : List Int} {ks : List QT} {vl vh : Value} {xs us' us els : List Value} {bk b1 : List Nat} {q' : QT}
theorem KF.g3q (h : KF s gp w0 gq above j lo hi ks vl vh xs bk q' us' b1 g3 cap3 us els W) : gq + 1 ≤ g3 := (World.ownsRow.lt h.rk g3 rfl).1
theorem KF.el (h : KF s gp w0 gq above j lo hi ks vl vh xs bk q' us' b1 g3 cap3 us els W) (i : Nat) (m : Nat) (hm : m = ks.length * 10 + i) (u : Value) : KF s gp w0 gq above j lo hi ks vl vh xs bk q' us' b1 g3 cap3 us (els.set i u) (W.setCell ⟨g3, m, none⟩ u) := by
  have hp := h.hp
  have hq := h.hq
  have h3 := h.g3q
  have hl := OQL.len h.ol
  have hrk := own_put (i := m) h.rk u
  rw [hm, ← hl, List.set_append_right _ _ (by omega), Nat.add_sub_cancel_left] at hrk
  rw [hm, ← hl]
  exact ⟨⟨h.pa.blk.far (by show gp ≠ g3; omega) u, h.pa.le⟩, only_setCell h.grown (.inr (by show w0.heap.size ≤ g3; omega)) u, h.bp.far (by show w0.heap.size ≠ g3; omega) u, h.ba.far (by show w0.heap.size + 1 ≠ g3; omega) u, h.br.far (by show w0.heap.size + 2 ≠ g3; omega) u,
    h.bq.far (by show gq ≠ g3; omega) u, own_setCell_ne h.rl h.g3l u, own_setCell_ne h.rh h.g3h u, hrk,
    h.ol.keep fun g hm => Below.heap_setCell _ _ _ _ (fun e => h.g3k (by cases e; exact hm)), h.oq.keep fun g hm => Below.heap_setCell _ _ _ _ (fun e => h.g31 (by cases e; exact hm)), h.hq, h.hp, h.g3l, h.g3h, h.g3k, h.g31⟩
theorem KF.box (h : KF s gp w0 gq above j lo hi ks vl vh xs bk q' us' b1 g3 cap3 us els W) (i : Nat) (u : Value) : KF s gp w0 gq above j lo hi ks vl vh xs bk q' us' b1 g3 cap3 (us.set i u) els (W.setCell ⟨gq, i, none⟩ u) := by
  have hp := h.hp
  have hq := h.hq
  have h3 := h.g3q
  refine ⟨⟨h.pa.blk.far (by show gp ≠ gq; omega) u, h.pa.le⟩, only_setCell h.grown (.inr (by show w0.heap.size ≤ gq; omega)) u, h.bp.far (by show w0.heap.size ≠ gq; omega) u, h.ba.far (by show w0.heap.size + 1 ≠ gq; omega) u, h.br.far (by show w0.heap.size + 2 ≠ gq; omega) u,
    ?_, own_setCell h.rl (by show gq < gq + 1; omega) u, own_setCell h.rh (by show gq < gq + 1; omega) u, own_setCell h.rk (by show gq < gq + 1; omega) u,
    h.ol.keep fun g hm => Below.heap_setCell _ _ _ _ (by have := (h.ol.mem g hm).1; show g ≠ gq; omega), h.oq.keep fun g hm => Below.heap_setCell _ _ _ _ (by have := (h.oq.mem g hm).1; show g ≠ gq; omega), h.hq, h.hp, h.g3l, h.g3h, h.g3k, h.g31⟩
  have := h.bq.set_ i u
  simpa using this
/-- The kid has been appended. -/
theorem KF.fin {k o b op : Int} {f t u : ByteArray} (h : KF s gp w0 gq above j lo hi ks vl vh xs bk q' us' b1 g3 cap3 us us' W)
    (hus : us = [.int .i64 k, .int .i64 o, .string f, .string t, .string u, vl, vh, .int .i64 b, .int .i64 op, .slice (some ⟨g3, 0, none⟩) (ks.length + 1) cap3])
    (hnd : (vl.ownBlock.toList ++ (vh.ownBlock.toList ++ (g3 :: (bk ++ b1)))).Nodup) : Fr s gp w0 gq above j (addK (.mk k o f t u lo hi b op ks) q') us (vl.ownBlock.toList ++ (vh.ownBlock.toList ++ (g3 :: (bk ++ b1)))) W := by
  refine ⟨h.pa, h.grown, h.bp, h.ba, h.br, h.bq, ?_, hnd, h.hq, h.hp⟩
  rw [addK, OQ]
  refine ⟨vl, vh, _, xs ++ us', bk ++ b1, hus, h.rl, h.rh, ?_, h.ol.snoc h.oq, rfl⟩
  rw [List.length_append]
  exact h.rk
end
end Go.Proofs.YtinmiekbhoemjaaDoor.Qry
