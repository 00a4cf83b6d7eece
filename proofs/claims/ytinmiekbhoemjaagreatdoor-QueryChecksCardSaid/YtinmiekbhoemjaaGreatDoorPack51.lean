/- The walk of QueryChecks. Written by gen_qchecks.py. A world that holds the tables holds two blocks. An argument that is a schema, in a program that has no documents. -/
import Derived.Test.YtinmiekbhoemjaaGreatDoorQckRCheck
import Derived.Test.YtinmiekbhoemjaaGreatDoorPack50
import Derived.Deep.RegionHeld3
import Derived.Test.YtinmiekbhoemjaaGreatDoorPack20
import Derived.Test.YtinmiekbhoemjaaGreatDoorPack8
section
set_option linter.unusedVariables false
namespace Go.Proofs.YtinmiekbhoemjaaGreatDoor.QueryChecksWalk
open Go.RowKit Words Tree SchP QckP Kit Owned Sch Qry QryP FoldNext Qck

/-- The first ten cells of a row of sixteen, written over. -/
theorem set10 {B : Nat} {w W : World} {g : Nat} {ty : TypeId} {c0 c1 c2 c3 c4 c5 c6 c7 c8 c9 c10 c11 c12 c13 c14 c15 : Value} (h : Blk W g ty #[c0, c1, c2, c3, c4, c5, c6, c7, c8, c9, c10, c11, c12, c13, c14, c15]) (hb : Below B w W) (hg : B ≤ g) (v0 v1 v2 v3 v4 v5 v6 v7 v8 v9 : Value) :
    Blk ((((((((((W.setCell ⟨g, 0, none⟩ v0).setCell ⟨g, 1, none⟩ v1).setCell ⟨g, 2, none⟩ v2).setCell ⟨g, 3, none⟩ v3).setCell ⟨g, 4, none⟩ v4).setCell ⟨g, 5, none⟩ v5).setCell ⟨g, 6, none⟩ v6).setCell ⟨g, 7, none⟩ v7).setCell ⟨g, 8, none⟩ v8).setCell ⟨g, 9, none⟩ v9) g ty #[v0, v1, v2, v3, v4, v5, v6, v7, v8, v9, c10, c11, c12, c13, c14, c15] ∧ Below B w ((((((((((W.setCell ⟨g, 0, none⟩ v0).setCell ⟨g, 1, none⟩ v1).setCell ⟨g, 2, none⟩ v2).setCell ⟨g, 3, none⟩ v3).setCell ⟨g, 4, none⟩ v4).setCell ⟨g, 5, none⟩ v5).setCell ⟨g, 6, none⟩ v6).setCell ⟨g, 7, none⟩ v7).setCell ⟨g, 8, none⟩ v8).setCell ⟨g, 9, none⟩ v9) ∧ W.grownBy ((((((((((W.setCell ⟨g, 0, none⟩ v0).setCell ⟨g, 1, none⟩ v1).setCell ⟨g, 2, none⟩ v2).setCell ⟨g, 3, none⟩ v3).setCell ⟨g, 4, none⟩ v4).setCell ⟨g, 5, none⟩ v5).setCell ⟨g, 6, none⟩ v6).setCell ⟨g, 7, none⟩ v7).setCell ⟨g, 8, none⟩ v8).setCell ⟨g, 9, none⟩ v9) (some g) ∧ ((((((((((W.setCell ⟨g, 0, none⟩ v0).setCell ⟨g, 1, none⟩ v1).setCell ⟨g, 2, none⟩ v2).setCell ⟨g, 3, none⟩ v3).setCell ⟨g, 4, none⟩ v4).setCell ⟨g, 5, none⟩ v5).setCell ⟨g, 6, none⟩ v6).setCell ⟨g, 7, none⟩ v7).setCell ⟨g, 8, none⟩ v8).setCell ⟨g, 9, none⟩ v9).heap.size = W.heap.size := by
  have b0 : Blk (W.setCell ⟨g, 0, none⟩ v0) g ty #[v0, c1, c2, c3, c4, c5, c6, c7, c8, c9, c10, c11, c12, c13, c14, c15] := h.set_ 0 v0
  have e0 : Below B w (W.setCell ⟨g, 0, none⟩ v0) := Below.setCell hb hg v0
  have f0 : W.grownBy (W.setCell ⟨g, 0, none⟩ v0) (some g) := only_setCell (World.grownBy.refl W _) (.inl rfl) v0
  have b1 : Blk ((W.setCell ⟨g, 0, none⟩ v0).setCell ⟨g, 1, none⟩ v1) g ty #[v0, v1, c2, c3, c4, c5, c6, c7, c8, c9, c10, c11, c12, c13, c14, c15] := b0.set_ 1 v1
  have e1 : Below B w ((W.setCell ⟨g, 0, none⟩ v0).setCell ⟨g, 1, none⟩ v1) := Below.setCell e0 hg v1
  have f1 : W.grownBy ((W.setCell ⟨g, 0, none⟩ v0).setCell ⟨g, 1, none⟩ v1) (some g) := only_setCell f0 (.inl rfl) v1
  have b2 : Blk (((W.setCell ⟨g, 0, none⟩ v0).setCell ⟨g, 1, none⟩ v1).setCell ⟨g, 2, none⟩ v2) g ty #[v0, v1, v2, c3, c4, c5, c6, c7, c8, c9, c10, c11, c12, c13, c14, c15] := b1.set_ 2 v2
  have e2 : Below B w (((W.setCell ⟨g, 0, none⟩ v0).setCell ⟨g, 1, none⟩ v1).setCell ⟨g, 2, none⟩ v2) := Below.setCell e1 hg v2
  have f2 : W.grownBy (((W.setCell ⟨g, 0, none⟩ v0).setCell ⟨g, 1, none⟩ v1).setCell ⟨g, 2, none⟩ v2) (some g) := only_setCell f1 (.inl rfl) v2
  have b3 : Blk ((((W.setCell ⟨g, 0, none⟩ v0).setCell ⟨g, 1, none⟩ v1).setCell ⟨g, 2, none⟩ v2).setCell ⟨g, 3, none⟩ v3) g ty #[v0, v1, v2, v3, c4, c5, c6, c7, c8, c9, c10, c11, c12, c13, c14, c15] := b2.set_ 3 v3
  have e3 : Below B w ((((W.setCell ⟨g, 0, none⟩ v0).setCell ⟨g, 1, none⟩ v1).setCell ⟨g, 2, none⟩ v2).setCell ⟨g, 3, none⟩ v3) := Below.setCell e2 hg v3
  have f3 : W.grownBy ((((W.setCell ⟨g, 0, none⟩ v0).setCell ⟨g, 1, none⟩ v1).setCell ⟨g, 2, none⟩ v2).setCell ⟨g, 3, none⟩ v3) (some g) := only_setCell f2 (.inl rfl) v3
  have b4 : Blk (((((W.setCell ⟨g, 0, none⟩ v0).setCell ⟨g, 1, none⟩ v1).setCell ⟨g, 2, none⟩ v2).setCell ⟨g, 3, none⟩ v3).setCell ⟨g, 4, none⟩ v4) g ty #[v0, v1, v2, v3, v4, c5, c6, c7, c8, c9, c10, c11, c12, c13, c14, c15] := b3.set_ 4 v4
  have e4 : Below B w (((((W.setCell ⟨g, 0, none⟩ v0).setCell ⟨g, 1, none⟩ v1).setCell ⟨g, 2, none⟩ v2).setCell ⟨g, 3, none⟩ v3).setCell ⟨g, 4, none⟩ v4) := Below.setCell e3 hg v4
  have f4 : W.grownBy (((((W.setCell ⟨g, 0, none⟩ v0).setCell ⟨g, 1, none⟩ v1).setCell ⟨g, 2, none⟩ v2).setCell ⟨g, 3, none⟩ v3).setCell ⟨g, 4, none⟩ v4) (some g) := only_setCell f3 (.inl rfl) v4
  have b5 : Blk ((((((W.setCell ⟨g, 0, none⟩ v0).setCell ⟨g, 1, none⟩ v1).setCell ⟨g, 2, none⟩ v2).setCell ⟨g, 3, none⟩ v3).setCell ⟨g, 4, none⟩ v4).setCell ⟨g, 5, none⟩ v5) g ty #[v0, v1, v2, v3, v4, v5, c6, c7, c8, c9, c10, c11, c12, c13, c14, c15] := b4.set_ 5 v5
  have e5 : Below B w ((((((W.setCell ⟨g, 0, none⟩ v0).setCell ⟨g, 1, none⟩ v1).setCell ⟨g, 2, none⟩ v2).setCell ⟨g, 3, none⟩ v3).setCell ⟨g, 4, none⟩ v4).setCell ⟨g, 5, none⟩ v5) := Below.setCell e4 hg v5
  have f5 : W.grownBy ((((((W.setCell ⟨g, 0, none⟩ v0).setCell ⟨g, 1, none⟩ v1).setCell ⟨g, 2, none⟩ v2).setCell ⟨g, 3, none⟩ v3).setCell ⟨g, 4, none⟩ v4).setCell ⟨g, 5, none⟩ v5) (some g) := only_setCell f4 (.inl rfl) v5
  have b6 : Blk (((((((W.setCell ⟨g, 0, none⟩ v0).setCell ⟨g, 1, none⟩ v1).setCell ⟨g, 2, none⟩ v2).setCell ⟨g, 3, none⟩ v3).setCell ⟨g, 4, none⟩ v4).setCell ⟨g, 5, none⟩ v5).setCell ⟨g, 6, none⟩ v6) g ty #[v0, v1, v2, v3, v4, v5, v6, c7, c8, c9, c10, c11, c12, c13, c14, c15] := b5.set_ 6 v6
  have e6 : Below B w (((((((W.setCell ⟨g, 0, none⟩ v0).setCell ⟨g, 1, none⟩ v1).setCell ⟨g, 2, none⟩ v2).setCell ⟨g, 3, none⟩ v3).setCell ⟨g, 4, none⟩ v4).setCell ⟨g, 5, none⟩ v5).setCell ⟨g, 6, none⟩ v6) := Below.setCell e5 hg v6
  have f6 : W.grownBy (((((((W.setCell ⟨g, 0, none⟩ v0).setCell ⟨g, 1, none⟩ v1).setCell ⟨g, 2, none⟩ v2).setCell ⟨g, 3, none⟩ v3).setCell ⟨g, 4, none⟩ v4).setCell ⟨g, 5, none⟩ v5).setCell ⟨g, 6, none⟩ v6) (some g) := only_setCell f5 (.inl rfl) v6
  have b7 : Blk ((((((((W.setCell ⟨g, 0, none⟩ v0).setCell ⟨g, 1, none⟩ v1).setCell ⟨g, 2, none⟩ v2).setCell ⟨g, 3, none⟩ v3).setCell ⟨g, 4, none⟩ v4).setCell ⟨g, 5, none⟩ v5).setCell ⟨g, 6, none⟩ v6).setCell ⟨g, 7, none⟩ v7) g ty #[v0, v1, v2, v3, v4, v5, v6, v7, c8, c9, c10, c11, c12, c13, c14, c15] := b6.set_ 7 v7
  have e7 : Below B w ((((((((W.setCell ⟨g, 0, none⟩ v0).setCell ⟨g, 1, none⟩ v1).setCell ⟨g, 2, none⟩ v2).setCell ⟨g, 3, none⟩ v3).setCell ⟨g, 4, none⟩ v4).setCell ⟨g, 5, none⟩ v5).setCell ⟨g, 6, none⟩ v6).setCell ⟨g, 7, none⟩ v7) := Below.setCell e6 hg v7
  have f7 : W.grownBy ((((((((W.setCell ⟨g, 0, none⟩ v0).setCell ⟨g, 1, none⟩ v1).setCell ⟨g, 2, none⟩ v2).setCell ⟨g, 3, none⟩ v3).setCell ⟨g, 4, none⟩ v4).setCell ⟨g, 5, none⟩ v5).setCell ⟨g, 6, none⟩ v6).setCell ⟨g, 7, none⟩ v7) (some g) := only_setCell f6 (.inl rfl) v7
  have b8 : Blk (((((((((W.setCell ⟨g, 0, none⟩ v0).setCell ⟨g, 1, none⟩ v1).setCell ⟨g, 2, none⟩ v2).setCell ⟨g, 3, none⟩ v3).setCell ⟨g, 4, none⟩ v4).setCell ⟨g, 5, none⟩ v5).setCell ⟨g, 6, none⟩ v6).setCell ⟨g, 7, none⟩ v7).setCell ⟨g, 8, none⟩ v8) g ty #[v0, v1, v2, v3, v4, v5, v6, v7, v8, c9, c10, c11, c12, c13, c14, c15] := b7.set_ 8 v8
  have e8 : Below B w (((((((((W.setCell ⟨g, 0, none⟩ v0).setCell ⟨g, 1, none⟩ v1).setCell ⟨g, 2, none⟩ v2).setCell ⟨g, 3, none⟩ v3).setCell ⟨g, 4, none⟩ v4).setCell ⟨g, 5, none⟩ v5).setCell ⟨g, 6, none⟩ v6).setCell ⟨g, 7, none⟩ v7).setCell ⟨g, 8, none⟩ v8) := Below.setCell e7 hg v8
  have f8 : W.grownBy (((((((((W.setCell ⟨g, 0, none⟩ v0).setCell ⟨g, 1, none⟩ v1).setCell ⟨g, 2, none⟩ v2).setCell ⟨g, 3, none⟩ v3).setCell ⟨g, 4, none⟩ v4).setCell ⟨g, 5, none⟩ v5).setCell ⟨g, 6, none⟩ v6).setCell ⟨g, 7, none⟩ v7).setCell ⟨g, 8, none⟩ v8) (some g) := only_setCell f7 (.inl rfl) v8
  have b9 : Blk ((((((((((W.setCell ⟨g, 0, none⟩ v0).setCell ⟨g, 1, none⟩ v1).setCell ⟨g, 2, none⟩ v2).setCell ⟨g, 3, none⟩ v3).setCell ⟨g, 4, none⟩ v4).setCell ⟨g, 5, none⟩ v5).setCell ⟨g, 6, none⟩ v6).setCell ⟨g, 7, none⟩ v7).setCell ⟨g, 8, none⟩ v8).setCell ⟨g, 9, none⟩ v9) g ty #[v0, v1, v2, v3, v4, v5, v6, v7, v8, v9, c10, c11, c12, c13, c14, c15] := b8.set_ 9 v9
  have e9 : Below B w ((((((((((W.setCell ⟨g, 0, none⟩ v0).setCell ⟨g, 1, none⟩ v1).setCell ⟨g, 2, none⟩ v2).setCell ⟨g, 3, none⟩ v3).setCell ⟨g, 4, none⟩ v4).setCell ⟨g, 5, none⟩ v5).setCell ⟨g, 6, none⟩ v6).setCell ⟨g, 7, none⟩ v7).setCell ⟨g, 8, none⟩ v8).setCell ⟨g, 9, none⟩ v9) := Below.setCell e8 hg v9
  have f9 : W.grownBy ((((((((((W.setCell ⟨g, 0, none⟩ v0).setCell ⟨g, 1, none⟩ v1).setCell ⟨g, 2, none⟩ v2).setCell ⟨g, 3, none⟩ v3).setCell ⟨g, 4, none⟩ v4).setCell ⟨g, 5, none⟩ v5).setCell ⟨g, 6, none⟩ v6).setCell ⟨g, 7, none⟩ v7).setCell ⟨g, 8, none⟩ v8).setCell ⟨g, 9, none⟩ v9) (some g) := only_setCell f8 (.inl rfl) v9
  exact ⟨b9, e9, f9, by simp [World.setCell]⟩
theorem blk16 {w : World} {g : Nat} {t : TypeId} {v0 v1 v2 v3 v4 v5 v6 v7 v8 v9 v10 v11 v12 v13 v14 v15 : Value} (h : Blk w g t #[v0, v1, v2, v3, v4, v5, v6, v7, v8, v9, v10, v11, v12, v13, v14, v15]) :
    w.cell? ⟨g, 0, none⟩ = some v0 ∧ w.cell? ⟨g, 1, none⟩ = some v1 ∧ w.cell? ⟨g, 2, none⟩ = some v2 ∧ w.cell? ⟨g, 3, none⟩ = some v3 ∧ w.cell? ⟨g, 4, none⟩ = some v4 ∧ w.cell? ⟨g, 5, none⟩ = some v5 ∧ w.cell? ⟨g, 6, none⟩ = some v6 ∧ w.cell? ⟨g, 7, none⟩ = some v7 ∧ w.cell? ⟨g, 8, none⟩ = some v8 ∧ w.cell? ⟨g, 9, none⟩ = some v9 ∧ w.cell? ⟨g, 10, none⟩ = some v10 ∧ w.cell? ⟨g, 11, none⟩ = some v11 ∧ w.cell? ⟨g, 12, none⟩ = some v12 ∧ w.cell? ⟨g, 13, none⟩ = some v13 ∧ w.cell? ⟨g, 14, none⟩ = some v14 ∧ w.cell? ⟨g, 15, none⟩ = some v15 :=
  ⟨h.cell 0, h.cell 1, h.cell 2, h.cell 3, h.cell 4, h.cell 5, h.cell 6, h.cell 7, h.cell 8, h.cell 9, h.cell 10, h.cell 11, h.cell 12, h.cell 13, h.cell 14, h.cell 15⟩
set_option maxRecDepth 100000 in
set_option maxHeartbeats 8000000 in
theorem walk (u : Value) (vs : List Value) (l : List FT) (r : ReqT) (w : World) (hu : T.At bare w (fun g => g < w.heap.size) (fieldsT l) u) (hl : l.length * 72 ≤ 140737488351232) (okf : ∀ f ∈ l, FOk f) (hv : T.AtL bare w (fun g => g < w.heap.size) (rcells r) vs) (hr : ROk r) (hT : Tabs w) :
    Calls Tryz.prog 3 #[.agg #[u], .agg vs.toArray] w (AnsB true w) := by
  have hm : ∀ {W : World}, Below w.heap.size w W → ∀ g, g < w.heap.size → g < W.heap.size := fun hW g hg => Nat.lt_of_lt_of_le hg hW.size
  have HRC0 := Lib.hid (fun (W : World) (hW : Below w.heap.size w W) => refCheck_any u l r vs W (At.below hu hW (hm hW)) hl okf (AtL.below hv hW (hm hW)) hr)
  obtain ⟨qs, v11, v12, v15, v16, rfl, hq, h3, h4, h7, h8⟩ := at_rcells hv
  have htail : T.AtL bare w (fun g => g < w.heap.size) (tailT r) [v11, v12, .int .i64 r.size, .string r.collapse, v15, v16] := by
    simp only [tailT, T.AtL]
    exact ⟨h3, h4, by simp only [T.At], by simp only [T.At], h7, h8, trivial⟩
  have HLQ := Lib.hid (fun (W : World) (hW : Below w.heap.size w W) => lentQ_any _ r.query qs W (Nat.le_refl _) hr.query (AtL.below hq hW (hm hW)))
  have HLS := Lib.hid (fun (W : World) (hW : Below w.heap.size w W) => lentSchema_any u l W (At.below hu hW (hm hW)) hl okf)
  have HIN0 := Lib.hid (fun (us : List Value) (v : Value) (W : World) (hus : T.AtL Qry.lent W (fun g => g < W.heap.size) (cells r.query) us) (hvv : T.At Sch.lent W (fun g => g < W.heap.size) (fieldsT l) v) (V : World) (hV : Below W.heap.size W V) (hw : Below w.heap.size w V) =>
    have hm2 : ∀ g, g < W.heap.size → g < V.heap.size := fun g hg => Nat.lt_of_lt_of_le hg hV.size
    have hus' := AtL.below (S' := fun g => g < V.heap.size) hus hV hm2
    have hvv' := At.below (S' := fun g => g < V.heap.size) hvv hV hm2
    And.intro (check_any v l r (us ++ [v11, v12, .int .i64 r.size, .string r.collapse, v15, v16]) V (At.bare hvv') hl okf (AtL.append (AtL.bare hus') (AtL.below htail hw (hm hw))) hr (hT.next hw))
      (And.intro (keptQ_any _ r.query us qs V (Nat.le_refl _) hr.query hus' (AtL.below hq hw (hm hw))) (keptSchema_any v u l V hvv' (At.below hu hw (hm hw)) hl okf)))
  obtain ⟨A, cap, rfl, _, _⟩ := at_slice hu
  obtain ⟨A4, c4, rfl, _⟩ := at_slice h3
  obtain ⟨A5, c5, rfl, _⟩ := at_slice h4
  obtain ⟨A6, c6, rfl, _⟩ := at_slice h7
  obtain ⟨A7, c7, rfl, _⟩ := at_slice h8
  generalize checkR l r = ec at *
  obtain ⟨⟨kd, oc, f, t, up, lo, hi, b, op, ks⟩, so, af, sz, co, ag, fl⟩ := r
  dsimp only at *
  obtain ⟨vl, vh, vk, rfl, hvl, hvh, hvk⟩ := at_cells hq
  obtain ⟨A1, c1, rfl⟩ := at_form' hvl
  obtain ⟨A2, c2, rfl⟩ := at_form' hvh
  obtain ⟨A3, c3, rfl⟩ := at_form' hvk
  simp only [List.cons_append, List.nil_append] at *
  clear hq hvl hvh hvk h3 h4 h7 h8 hu hv okf hr hT htail
  have hb1 := ((Below.refl w.heap.size w).alloc (Nat.le_refl _) (Obj.cells #[.slice A l.length cap] 24)).alloc (by simp) (Obj.cells #[.int .i64 kd, .int .i64 oc, .string f, .string t, .string up, .slice A1 lo.length c1, .slice A2 hi.length c2, .int .i64 b, .int .i64 op, .slice A3 ks.length c3, .slice A4 so.length c4, .slice A5 af.length c5, .int .i64 sz, .string co, .slice A6 ag.length c6, .slice A7 fl.length c7] 34)
  have bs1 := (Blk.new w 24 #[.slice A l.length cap]).alloc (Obj.cells #[.int .i64 kd, .int .i64 oc, .string f, .string t, .string up, .slice A1 lo.length c1, .slice A2 hi.length c2, .int .i64 b, .int .i64 op, .slice A3 ks.length c3, .slice A4 so.length c4, .slice A5 af.length c5, .int .i64 sz, .string co, .slice A6 ag.length c6, .slice A7 fl.length c7] 34)
  have br1 := Blk.new (w.alloc (Obj.cells #[.slice A l.length cap] 24)) 34 #[.int .i64 kd, .int .i64 oc, .string f, .string t, .string up, .slice A1 lo.length c1, .slice A2 hi.length c2, .int .i64 b, .int .i64 op, .slice A3 ks.length c3, .slice A4 so.length c4, .slice A5 af.length c5, .int .i64 sz, .string co, .slice A6 ag.length c6, .slice A7 fl.length c7]
  rw [show (w.alloc (Obj.cells #[.slice A l.length cap] 24)).heap.size = w.heap.size + 1 by simp] at br1
  have hz1 : ((w.alloc (Obj.cells #[.slice A l.length cap] 24)).alloc (Obj.cells #[.int .i64 kd, .int .i64 oc, .string f, .string t, .string up, .slice A1 lo.length c1, .slice A2 hi.length c2, .int .i64 b, .int .i64 op, .slice A3 ks.length c3, .slice A4 so.length c4, .slice A5 af.length c5, .int .i64 sz, .string co, .slice A6 ag.length c6, .slice A7 fl.length c7] 34)).heap.size = w.heap.size + 2 := by simp
  have HB1 := Lib.hid hb1
  have BS1 := Lib.hid bs1
  have BR1 := Lib.hid br1
  have HZ1 := Lib.hid hz1
  clear hb1 bs1 br1 hz1
  go_enter Tryz.func3, Tryz.ntmps3
  go_upto_region 1 with fail
  generalize (w.alloc (Obj.cells #[.slice A l.length cap] 24)).alloc (Obj.cells #[.int .i64 kd, .int .i64 oc, .string f, .string t, .string up, .slice A1 lo.length c1, .slice A2 hi.length c2, .int .i64 b, .int .i64 op, .slice A3 ks.length c3, .slice A4 so.length c4, .slice A5 af.length c5, .int .i64 sz, .string co, .slice A6 ag.length c6, .slice A7 fl.length c7] 34) = w1 at *
  generalize (Value.agg #[.slice A l.length cap]) = va
  generalize (Value.agg #[.int .i64 kd, .int .i64 oc, .string f, .string t, .string up, .slice A1 lo.length c1, .slice A2 hi.length c2, .int .i64 b, .int .i64 op, .slice A3 ks.length c3, .slice A4 so.length c4, .slice A5 af.length c5, .int .i64 sz, .string co, .slice A6 ag.length c6, .slice A7 fl.length c7]) = vb
  have r0 : w1.cell? ⟨w.heap.size + 1, 0, none⟩ = some (.int .i64 kd) := BR1.out.cell 0
  have r1 : w1.cell? ⟨w.heap.size + 1, 1, none⟩ = some (.int .i64 oc) := BR1.out.cell 1
  have r2 : w1.cell? ⟨w.heap.size + 1, 2, none⟩ = some (.string f) := BR1.out.cell 2
  have r3 : w1.cell? ⟨w.heap.size + 1, 3, none⟩ = some (.string t) := BR1.out.cell 3
  have r4 : w1.cell? ⟨w.heap.size + 1, 4, none⟩ = some (.string up) := BR1.out.cell 4
  have r5 : w1.cell? ⟨w.heap.size + 1, 5, none⟩ = some (.slice A1 lo.length c1) := BR1.out.cell 5
  have r6 : w1.cell? ⟨w.heap.size + 1, 6, none⟩ = some (.slice A2 hi.length c2) := BR1.out.cell 6
  have r7 : w1.cell? ⟨w.heap.size + 1, 7, none⟩ = some (.int .i64 b) := BR1.out.cell 7
  have r8 : w1.cell? ⟨w.heap.size + 1, 8, none⟩ = some (.int .i64 op) := BR1.out.cell 8
  have r9 : w1.cell? ⟨w.heap.size + 1, 9, none⟩ = some (.slice A3 ks.length c3) := BR1.out.cell 9
  have r10 : w1.cell? ⟨w.heap.size + 1, 10, none⟩ = some (.slice A4 so.length c4) := BR1.out.cell 10
  have r11 : w1.cell? ⟨w.heap.size + 1, 11, none⟩ = some (.slice A5 af.length c5) := BR1.out.cell 11
  have r12 : w1.cell? ⟨w.heap.size + 1, 12, none⟩ = some (.int .i64 sz) := BR1.out.cell 12
  have r13 : w1.cell? ⟨w.heap.size + 1, 13, none⟩ = some (.string co) := BR1.out.cell 13
  have r14 : w1.cell? ⟨w.heap.size + 1, 14, none⟩ = some (.slice A6 ag.length c6) := BR1.out.cell 14
  have r15 : w1.cell? ⟨w.heap.size + 1, 15, none⟩ = some (.slice A7 fl.length c7) := BR1.out.cell 15
  have hlt1 : w.heap.size + 1 < w1.heap.size := BR1.out.lt
  go_upto_region 2 with fail
  have HB2 := Lib.hid (HB1.out.alloc HB1.out.size (Obj.cells #[.int .i64 kd, .int .i64 oc, .string f, .string t, .string up, .slice A1 lo.length c1, .slice A2 hi.length c2, .int .i64 b, .int .i64 op, .slice A3 ks.length c3, .slice A4 so.length c4, .slice A5 af.length c5, .int .i64 sz, .string co, .slice A6 ag.length c6, .slice A7 fl.length c7] 34))
  have BS2 := Lib.hid (BS1.out.alloc (Obj.cells #[.int .i64 kd, .int .i64 oc, .string f, .string t, .string up, .slice A1 lo.length c1, .slice A2 hi.length c2, .int .i64 b, .int .i64 op, .slice A3 ks.length c3, .slice A4 so.length c4, .slice A5 af.length c5, .int .i64 sz, .string co, .slice A6 ag.length c6, .slice A7 fl.length c7] 34))
  have BR2 := Lib.hid (BR1.out.alloc (Obj.cells #[.int .i64 kd, .int .i64 oc, .string f, .string t, .string up, .slice A1 lo.length c1, .slice A2 hi.length c2, .int .i64 b, .int .i64 op, .slice A3 ks.length c3, .slice A4 so.length c4, .slice A5 af.length c5, .int .i64 sz, .string co, .slice A6 ag.length c6, .slice A7 fl.length c7] 34))
  have BI2 := Lib.hid (Blk.new w1 34 #[.int .i64 kd, .int .i64 oc, .string f, .string t, .string up, .slice A1 lo.length c1, .slice A2 hi.length c2, .int .i64 b, .int .i64 op, .slice A3 ks.length c3, .slice A4 so.length c4, .slice A5 af.length c5, .int .i64 sz, .string co, .slice A6 ag.length c6, .slice A7 fl.length c7])
  have hgi : w.heap.size + 2 ≤ w1.heap.size := by have := HZ1.out; omega
  clear r0 r1 r2 r3 r4 r5 r6 r7 r8 r9 r10 r11 r12 r13 r14 r15 hlt1
  generalize w1.alloc (Obj.cells #[.int .i64 kd, .int .i64 oc, .string f, .string t, .string up, .slice A1 lo.length c1, .slice A2 hi.length c2, .int .i64 b, .int .i64 op, .slice A3 ks.length c3, .slice A4 so.length c4, .slice A5 af.length c5, .int .i64 sz, .string co, .slice A6 ag.length c6, .slice A7 fl.length c7] 34) = w2 at *
  generalize w1.heap.size = gi at *
  have r0 : w2.cell? ⟨w.heap.size + 1, 0, none⟩ = some (.int .i64 kd) := BR2.out.cell 0
  have r1 : w2.cell? ⟨w.heap.size + 1, 1, none⟩ = some (.int .i64 oc) := BR2.out.cell 1
  have r2 : w2.cell? ⟨w.heap.size + 1, 2, none⟩ = some (.string f) := BR2.out.cell 2
  have r3 : w2.cell? ⟨w.heap.size + 1, 3, none⟩ = some (.string t) := BR2.out.cell 3
  have r4 : w2.cell? ⟨w.heap.size + 1, 4, none⟩ = some (.string up) := BR2.out.cell 4
  have r5 : w2.cell? ⟨w.heap.size + 1, 5, none⟩ = some (.slice A1 lo.length c1) := BR2.out.cell 5
  have r6 : w2.cell? ⟨w.heap.size + 1, 6, none⟩ = some (.slice A2 hi.length c2) := BR2.out.cell 6
  have r7 : w2.cell? ⟨w.heap.size + 1, 7, none⟩ = some (.int .i64 b) := BR2.out.cell 7
  have r8 : w2.cell? ⟨w.heap.size + 1, 8, none⟩ = some (.int .i64 op) := BR2.out.cell 8
  have r9 : w2.cell? ⟨w.heap.size + 1, 9, none⟩ = some (.slice A3 ks.length c3) := BR2.out.cell 9
  go_wp2_with fail
  refine (HLQ.out _ HB2.out).mono ?_
  rintro e w3 ⟨us, rfl, aus, hb⟩
  have HAU := Lib.hid aus
  obtain ⟨ul, uh, uk, rfl, hul, huh, huk⟩ := at_cells aus
  obtain ⟨D1, d1, rfl⟩ := at_form' hul
  obtain ⟨D2, d2, rfl⟩ := at_form' huh
  obtain ⟨D3, d3, rfl⟩ := at_form' huk
  have hsz2 : w.heap.size ≤ w2.heap.size := HB2.out.size
  have HB3 := Lib.hid (HB2.out.trans (hb.mono hsz2))
  have BS3 := Lib.hid (BS2.out.below hb BS2.out.lt)
  have BR3 := Lib.hid (BR2.out.below hb BR2.out.lt)
  have BI3 := Lib.hid (BI2.out.below hb BI2.out.lt)
  have hgi2 : gi < w2.heap.size := BI2.out.lt
  clear hb aus hul huh huk r0 r1 r2 r3 r4 r5 r6 r7 r8 r9
  -- the query's copy, stored
  have HS := Lib.hid (set10 BI3.out (Below.refl gi w3) (Nat.le_refl _) (.int .i64 kd) (.int .i64 oc) (.string f) (.string t) (.string up) (.slice D1 lo.length d1) (.slice D2 hi.length d2) (.int .i64 b) (.int .i64 op) (.slice D3 ks.length d3))
  have z0 : w3.frozen? ⟨gi, 0, none⟩ = false := BI3.out.frozen 0
  have z1 : w3.frozen? ⟨gi, 1, none⟩ = false := BI3.out.frozen 1
  have z2 : w3.frozen? ⟨gi, 2, none⟩ = false := BI3.out.frozen 2
  have z3 : w3.frozen? ⟨gi, 3, none⟩ = false := BI3.out.frozen 3
  have z4 : w3.frozen? ⟨gi, 4, none⟩ = false := BI3.out.frozen 4
  have z5 : w3.frozen? ⟨gi, 5, none⟩ = false := BI3.out.frozen 5
  have z6 : w3.frozen? ⟨gi, 6, none⟩ = false := BI3.out.frozen 6
  have z7 : w3.frozen? ⟨gi, 7, none⟩ = false := BI3.out.frozen 7
  have z8 : w3.frozen? ⟨gi, 8, none⟩ = false := BI3.out.frozen 8
  have z9 : w3.frozen? ⟨gi, 9, none⟩ = false := BI3.out.frozen 9
  have c_0 : w3.cell? ⟨gi, 0, none⟩ = some (.int .i64 kd) := BI3.out.cell 0
  have c_1 : w3.cell? ⟨gi, 1, none⟩ = some (.int .i64 oc) := BI3.out.cell 1
  have c_2 : w3.cell? ⟨gi, 2, none⟩ = some (.string f) := BI3.out.cell 2
  have c_3 : w3.cell? ⟨gi, 3, none⟩ = some (.string t) := BI3.out.cell 3
  have c_4 : w3.cell? ⟨gi, 4, none⟩ = some (.string up) := BI3.out.cell 4
  have c_5 : w3.cell? ⟨gi, 5, none⟩ = some (.slice A1 lo.length c1) := BI3.out.cell 5
  have c_6 : w3.cell? ⟨gi, 6, none⟩ = some (.slice A2 hi.length c2) := BI3.out.cell 6
  have c_7 : w3.cell? ⟨gi, 7, none⟩ = some (.int .i64 b) := BI3.out.cell 7
  have c_8 : w3.cell? ⟨gi, 8, none⟩ = some (.int .i64 op) := BI3.out.cell 8
  have c_9 : w3.cell? ⟨gi, 9, none⟩ = some (.slice A3 ks.length c3) := BI3.out.cell 9
  go_upto_region 3 with fail
  generalize ((((((((((w3.setCell ⟨gi, 0, none⟩ (.int .i64 kd)).setCell ⟨gi, 1, none⟩ (.int .i64 oc)).setCell ⟨gi, 2, none⟩ (.string f)).setCell ⟨gi, 3, none⟩ (.string t)).setCell ⟨gi, 4, none⟩ (.string up)).setCell ⟨gi, 5, none⟩ (.slice D1 lo.length d1)).setCell ⟨gi, 6, none⟩ (.slice D2 hi.length d2)).setCell ⟨gi, 7, none⟩ (.int .i64 b)).setCell ⟨gi, 8, none⟩ (.int .i64 op)).setCell ⟨gi, 9, none⟩ (.slice D3 ks.length d3)) = w4 at *
  clear z0 z1 z2 z3 z4 z5 z6 z7 z8 z9 c_0 c_1 c_2 c_3 c_4 c_5 c_6 c_7 c_8 c_9
  have hsz4 : w4.heap.size = w3.heap.size := HS.out.2.2.2
  have HB4 := Lib.hid (HB3.out.trans (HS.out.2.1.mono (by omega)))
  have BS4 := Lib.hid (BS3.out.below HS.out.2.1 (by omega))
  have BR4 := Lib.hid (BR3.out.below HS.out.2.1 (by omega))
  have BI4 := Lib.hid HS.out.1
  have HAU4 := Lib.hid (AtL.keep (w' := w4) (S' := fun g => w2.heap.size ≤ g ∧ g < w4.heap.size) (fun p hp => World.cell?_of_block (HS.out.2.2.1.block p.block hp.2 (fun e => by injection e with e; have := hp.1; omega))) (fun g hg => ⟨hg.1, by have := hg.2; omega⟩) HAU.out)
  clear BI3 BS3 BR3 HAU HS
  have s0 : w4.cell? ⟨w.heap.size, 0, none⟩ = some (.slice A l.length cap) := BS4.out.cell 0
  go_wp2_with fail
  refine (HLS.out _ HB4.out).mono ?_
  rintro e w5 ⟨v, rfl, av, hb⟩
  have HAV := Lib.hid av
  obtain ⟨E, cE, rfl, _, _⟩ := at_slice av
  have HB5' := Lib.hid (HB4.out.trans (hb.mono HB4.out.size))
  have BS5' := Lib.hid (BS4.out.below hb BS4.out.lt)
  have BR5' := Lib.hid (BR4.out.below hb BR4.out.lt)
  have BI5' := Lib.hid (BI4.out.below hb BI4.out.lt)
  have HAU5' := Lib.hid (AtL.keep (w' := w5) (S' := fun g => g < w5.heap.size) (fun p hp => hb.cell hp.2) (fun g hg => Nat.lt_of_lt_of_le hg.2 hb.size) HAU4.out)
  clear hb av s0 HB4 BS4 BR4 BI4 HAU4
  go_upto_region 4 with fail
  have ha := (Below.refl w5.heap.size w5).alloc (Nat.le_refl _) (Obj.cells #[.slice E l.length cE] 24)
  have HB5 := Lib.hid (HB5'.out.alloc HB5'.out.size (Obj.cells #[.slice E l.length cE] 24))
  have BS := Lib.hid (BS5'.out.alloc (Obj.cells #[.slice E l.length cE] 24))
  have BR := Lib.hid (BR5'.out.alloc (Obj.cells #[.slice E l.length cE] 24))
  have BI := Lib.hid (BI5'.out.alloc (Obj.cells #[.slice E l.length cE] 24))
  have BT := Lib.hid (Blk.new w5 24 #[.slice E l.length cE])
  have HAU5 := Lib.hid (AtL.below (S' := fun g => g < (w5.alloc (Obj.cells #[.slice E l.length cE] 24)).heap.size) HAU5'.out ha (fun g hg => Nat.lt_of_lt_of_le hg ha.size))
  have HAV5 := Lib.hid (At.keep (w' := w5.alloc (Obj.cells #[.slice E l.length cE] 24)) (S' := fun g => g < (w5.alloc (Obj.cells #[.slice E l.length cE] 24)).heap.size) (fun p hp => ha.cell hp.2) (fun g hg => Nat.lt_of_lt_of_le hg.2 ha.size) HAV.out)
  clear ha HAV HAU5' BI5' BR5' BS5' HB5'
  generalize w5.alloc (Obj.cells #[.slice E l.length cE] 24) = W5 at *
  generalize w5.heap.size = gt at *
  have HIN := Lib.hid (fun (V : World) (hV : Below W5.heap.size W5 V) => HIN0.out _ _ W5 HAU5.out HAV5.out V hV (HB5.out.trans (hV.mono HB5.out.size)))
  have HRC := HRC0
  have hd5 : Below W5.heap.size W5 W5.drew := (Below.refl _ W5).drew
  simp only [List.cons_append, List.nil_append] at HIN
  clear HIN0 HRC0 HLS HLQ HAU5 HAV5
  refine wp_region_held_drew (S := fun V => Below W5.heap.size W5 V) (by kernel_rfl) hd5 (fun hS0 => ?_)
  refine' wpAnyH_take (i := 0) (v := _) (by simp only [List.getElem?_toArray, List.getElem?_cons_zero]; rfl) (by kernel_rfl) (by kernel_rfl) (by kernel_rfl) (by exact fun _ _ _ h => h) (Or.inl ⟨by rfl, ?hy0⟩) hS0 ?rest0
  case hy0 => intro V hSw; have fq := (BT.out.below hSw BT.out.lt).cell 0; clear hSw; go_simp; try with_reducible rfl
  try simp only [Act.put, List.setIfInBounds_toArray, List.set_cons_zero, List.set_cons_succ]
  refine' wpAnyH_take (i := 1) (v := _) (by simp only [List.getElem?_toArray, List.getElem?_cons_succ, List.getElem?_cons_zero]; rfl) (by kernel_rfl) (by kernel_rfl) (by kernel_rfl) (by exact fun _ _ _ h => h) (Or.inl ⟨by rfl, ?hy1⟩) hS0 ?rest1
  case hy1 => intro V hSw; obtain ⟨a0, a1, a2, a3, a4, a5, a6, a7, a8, a9, a10, a11, a12, a13, a14, a15⟩ := blk16 (BI.out.below hSw BI.out.lt); clear hSw; go_simp; try with_reducible rfl
  try simp only [Act.put, List.setIfInBounds_toArray, List.set_cons_zero, List.set_cons_succ]
  refine' wpAnyH_take (i := 3) (v := _) (by simp only [List.getElem?_toArray, List.getElem?_cons_succ, List.getElem?_cons_zero]; rfl) (by kernel_rfl) (by kernel_rfl) (by kernel_rfl) (by exact fun _ _ _ h => h) (Or.inl ⟨by rfl, ?hy3⟩) hS0 ?rest3
  case hy3 => intro V hSw; have fq := (BS.out.below hSw BS.out.lt).cell 0; clear hSw; go_simp; try with_reducible rfl
  try simp only [Act.put, List.setIfInBounds_toArray, List.set_cons_zero, List.set_cons_succ]
  refine' wpAnyH_take (i := 4) (v := _) (by simp only [List.getElem?_toArray, List.getElem?_cons_succ, List.getElem?_cons_zero]; rfl) (by kernel_rfl) (by kernel_rfl) (by kernel_rfl) (by exact fun _ _ _ h => h) (Or.inl ⟨by rfl, ?hy4⟩) hS0 ?rest4
  case hy4 => intro V hSw; obtain ⟨a0, a1, a2, a3, a4, a5, a6, a7, a8, a9, a10, a11, a12, a13, a14, a15⟩ := blk16 (BR.out.below hSw BR.out.lt); clear hSw; go_simp; try with_reducible rfl
  try simp only [Act.put, List.setIfInBounds_toArray, List.set_cons_zero, List.set_cons_succ]
  refine wpAnyH_ready (rs := [2]) (by kernel_rfl) (by simp) ?_
  refine' AllReadyH.cons (by simp only [List.getElem?_toArray, List.getElem?_cons_succ, List.getElem?_cons_zero]; rfl) (fun K hK => ?_) AllReadyH.nil
  go_simp
  refine ((HIN.out _ hS0).1).mono ?_
  rintro e V1 ⟨rfl, q⟩
  have B1 := Lib.hid (Below.trans hS0 (q.mono (hS0).size))
  clear q
  go_simp
  refine hK.out _ _ B1.out (fun hS1 => ?_)
  try simp only [Act.put, List.setIfInBounds_toArray, List.set_cons_zero, List.set_cons_succ]
  refine wpAnyH_ready (rs := [5]) (by kernel_rfl) (by simp) ?_
  refine' AllReadyH.cons (by simp only [List.getElem?_toArray, List.getElem?_cons_succ, List.getElem?_cons_zero]; rfl) (fun K hK => ?_) AllReadyH.nil
  go_simp
  refine (HRC.out _ (HB5.out.trans (hS1.mono HB5.out.size))).mono ?_
  rintro e V2 ⟨rfl, q⟩
  have B2 := Lib.hid (Below.trans hS1 (q.mono (hS1).size))
  clear q
  go_simp
  refine hK.out _ _ B2.out (fun hS2 => ?_)
  try simp only [Act.put, List.setIfInBounds_toArray, List.set_cons_zero, List.set_cons_succ]
  refine' wpAnyH_take (i := 6) (v := _) (by simp only [List.getElem?_toArray, List.getElem?_cons_succ, List.getElem?_cons_zero]; rfl) (by kernel_rfl) (by kernel_rfl) (by kernel_rfl) (by exact fun _ _ _ h => h) (Or.inl ⟨by rfl, ?hy6⟩) hS2 ?rest6
  case hy6 => intro V hSw; clear hSw; go_simp; try with_reducible rfl
  try simp only [Act.put, List.setIfInBounds_toArray, List.set_cons_zero, List.set_cons_succ]
  refine' wpAnyH_take (i := 7) (v := _) (by simp only [List.getElem?_toArray, List.getElem?_cons_succ, List.getElem?_cons_zero]; rfl) (by kernel_rfl) (by kernel_rfl) (by kernel_rfl) (by exact fun _ _ _ h => h) (Or.inl ⟨by rfl, ?hy7⟩) hS2 ?rest7
  case hy7 => intro V hSw; clear hSw; go_simp; try with_reducible rfl
  try simp only [Act.put, List.setIfInBounds_toArray, List.set_cons_zero, List.set_cons_succ]
  refine' wpAnyH_take (i := 8) (v := _) (by simp only [List.getElem?_toArray, List.getElem?_cons_succ, List.getElem?_cons_zero]; rfl) (by kernel_rfl) (by kernel_rfl) (by kernel_rfl) (by exact fun _ _ _ h => h) (Or.inl ⟨by rfl, ?hy8⟩) hS2 ?rest8
  case hy8 => intro V hSw; clear hSw; go_simp; try with_reducible rfl
  try simp only [Act.put, List.setIfInBounds_toArray, List.set_cons_zero, List.set_cons_succ]
  refine' wpAnyH_take (i := 9) (v := _) (by simp only [List.getElem?_toArray, List.getElem?_cons_succ, List.getElem?_cons_zero]; rfl) (by kernel_rfl) (by kernel_rfl) (by kernel_rfl) (by exact fun _ _ _ h => h) (Or.inl ⟨by rfl, ?hy9⟩) hS2 ?rest9
  case hy9 => intro V hSw; obtain ⟨a0, a1, a2, a3, a4, a5, a6, a7, a8, a9, a10, a11, a12, a13, a14, a15⟩ := blk16 (BI.out.below hSw BI.out.lt); clear hSw; go_simp; try with_reducible rfl
  try simp only [Act.put, List.setIfInBounds_toArray, List.set_cons_zero, List.set_cons_succ]
  refine' wpAnyH_take (i := 10) (v := _) (by simp only [List.getElem?_toArray, List.getElem?_cons_succ, List.getElem?_cons_zero]; rfl) (by kernel_rfl) (by kernel_rfl) (by kernel_rfl) (by exact fun _ _ _ h => h) (Or.inl ⟨by rfl, ?hy10⟩) hS2 ?rest10
  case hy10 => intro V hSw; clear hSw; go_simp; try with_reducible rfl
  try simp only [Act.put, List.setIfInBounds_toArray, List.set_cons_zero, List.set_cons_succ]
  refine' wpAnyH_take (i := 11) (v := _) (by simp only [List.getElem?_toArray, List.getElem?_cons_succ, List.getElem?_cons_zero]; rfl) (by kernel_rfl) (by kernel_rfl) (by kernel_rfl) (by exact fun _ _ _ h => h) (Or.inl ⟨by rfl, ?hy11⟩) hS2 ?rest11
  case hy11 => intro V hSw; obtain ⟨a0, a1, a2, a3, a4, a5, a6, a7, a8, a9, a10, a11, a12, a13, a14, a15⟩ := blk16 (BR.out.below hSw BR.out.lt); clear hSw; go_simp; try with_reducible rfl
  try simp only [Act.put, List.setIfInBounds_toArray, List.set_cons_zero, List.set_cons_succ]
  refine wpAnyH_ready (rs := [12]) (by kernel_rfl) (by simp) ?_
  refine' AllReadyH.cons (by simp only [List.getElem?_toArray, List.getElem?_cons_succ, List.getElem?_cons_zero]; rfl) (fun K hK => ?_) AllReadyH.nil
  go_simp
  refine ((HIN.out _ hS2).2.1).mono ?_
  rintro e V3 ⟨rfl, q⟩
  have B3 := Lib.hid (Below.trans hS2 (q.mono (hS2).size))
  clear q
  go_simp
  refine hK.out _ _ B3.out (fun hS3 => ?_)
  try simp only [Act.put, List.setIfInBounds_toArray, List.set_cons_zero, List.set_cons_succ]
  refine' wpAnyH_take (i := 13) (v := _) (by simp only [List.getElem?_toArray, List.getElem?_cons_succ, List.getElem?_cons_zero]; rfl) (by kernel_rfl) (by kernel_rfl) (by kernel_rfl) (by exact fun _ _ _ h => h) (Or.inl ⟨by rfl, ?hy13⟩) hS3 ?rest13
  case hy13 => intro V hSw; clear hSw; go_simp; try with_reducible rfl
  try simp only [Act.put, List.setIfInBounds_toArray, List.set_cons_zero, List.set_cons_succ]
  refine' wpAnyH_take (i := 14) (v := _) (by simp only [List.getElem?_toArray, List.getElem?_cons_succ, List.getElem?_cons_zero]; rfl) (by kernel_rfl) (by kernel_rfl) (by kernel_rfl) (by exact fun _ _ _ h => h) (Or.inl ⟨by rfl, ?hy14⟩) hS3 ?rest14
  case hy14 => intro V hSw; clear hSw; go_simp; try with_reducible rfl
  try simp only [Act.put, List.setIfInBounds_toArray, List.set_cons_zero, List.set_cons_succ]
  refine' wpAnyH_take (i := 15) (v := _) (by simp only [List.getElem?_toArray, List.getElem?_cons_succ, List.getElem?_cons_zero]; rfl) (by kernel_rfl) (by kernel_rfl) (by kernel_rfl) (by exact fun _ _ _ h => h) (Or.inl ⟨by rfl, ?hy15⟩) hS3 ?rest15
  case hy15 => intro V hSw; have fq := (BT.out.below hSw BT.out.lt).cell 0; clear hSw; go_simp; try with_reducible rfl
  try simp only [Act.put, List.setIfInBounds_toArray, List.set_cons_zero, List.set_cons_succ]
  refine' wpAnyH_take (i := 16) (v := _) (by simp only [List.getElem?_toArray, List.getElem?_cons_succ, List.getElem?_cons_zero]; rfl) (by kernel_rfl) (by kernel_rfl) (by kernel_rfl) (by exact fun _ _ _ h => h) (Or.inl ⟨by rfl, ?hy16⟩) hS3 ?rest16
  case hy16 => intro V hSw; have fq := (BS.out.below hSw BS.out.lt).cell 0; clear hSw; go_simp; try with_reducible rfl
  try simp only [Act.put, List.setIfInBounds_toArray, List.set_cons_zero, List.set_cons_succ]
  refine wpAnyH_ready (rs := [17]) (by kernel_rfl) (by simp) ?_
  refine' AllReadyH.cons (by simp only [List.getElem?_toArray, List.getElem?_cons_succ, List.getElem?_cons_zero]; rfl) (fun K hK => ?_) AllReadyH.nil
  go_simp
  refine ((HIN.out _ hS3).2.2).mono ?_
  rintro e V4 ⟨rfl, q⟩
  have B4 := Lib.hid (Below.trans hS3 (q.mono (hS3).size))
  clear q
  go_simp
  refine hK.out _ _ B4.out (fun hS4 => ?_)
  try simp only [Act.put, List.setIfInBounds_toArray, List.set_cons_zero, List.set_cons_succ]
  refine' wpAnyH_take (i := 18) (v := _) (by simp only [List.getElem?_toArray, List.getElem?_cons_succ, List.getElem?_cons_zero]; rfl) (by kernel_rfl) (by kernel_rfl) (by kernel_rfl) (by exact fun _ _ _ h => h) (Or.inl ⟨by rfl, ?hy18⟩) hS4 ?rest18
  case hy18 => intro V hSw; clear hSw; go_simp; try with_reducible rfl
  try simp only [Act.put, List.setIfInBounds_toArray, List.set_cons_zero, List.set_cons_succ]
  refine' wpAnyH_take (i := 19) (v := _) (by simp only [List.getElem?_toArray, List.getElem?_cons_succ, List.getElem?_cons_zero]; rfl) (by kernel_rfl) (by kernel_rfl) (by kernel_rfl) (by exact fun _ _ _ h => h) (Or.inl ⟨by rfl, ?hy19⟩) hS4 ?rest19
  case hy19 => intro V hSw; clear hSw; go_simp; try with_reducible rfl
  try simp only [Act.put, List.setIfInBounds_toArray, List.set_cons_zero, List.set_cons_succ]
  refine wpAnyH_done (by kernel_rfl) ?_ _
  have HE := Lib.hid (HB5.out.trans (B4.out.mono HB5.out.size))
  go_wp2_with fail
  go_ret
  exact ⟨rfl, HE.out⟩
end Go.Proofs.YtinmiekbhoemjaaGreatDoor.QueryChecksWalk
end
section
namespace Go.Proofs.YtinmiekbhoemjaaGreatDoor.Ana
open Go.RowKit Go.Lib FoldNext
theorem tabs_size {w : World} (h : Lib.Utf8Tabs 0 1 w) : 2 ≤ w.heap.size := by
  have h1 := (h.2 0 (by omega)).1
  have := World.block_lt_of_cell? w _ h1
  have h2 := h.1 0 (by omega)
  have := World.block_lt_of_cell? w _ h2
  dsimp only at *
  omega
end Go.Proofs.YtinmiekbhoemjaaGreatDoor.Ana
end
section
set_option linter.unusedVariables false
namespace Go.Proofs.YtinmiekbhoemjaaGreatDoor.Qck
open Go.RowKit Words Tree SchP Sch
def sTypesQ : List TypeId := [24, 22, 46, 44, 3, 9, 4]
theorem sFineQ : fineB Tryz.prog sTypesQ = true := by kernel_rfl
section
variable {H : Type} {enc : TypeId × Value → H} {w : World} {r : Reach} {b0 : Nat} {v : Value} {d : DataW H} {ps : List MemPlace}
set_option maxRecDepth 100000 in
theorem open_schemaQ (hv : Value.okWide Tryz.prog w r b0 24 v) (h : DataW.Trod enc Tryz.prog w 0 (fun _ => true) true 24 v d ps) (hw : ∀ n ∈ d.weights Tryz.prog 24, n ≤ reachBytes) :
    ∃ l u, v = .agg #[u] ∧ T.At bare w (fun g => g < w.heap.size) (fieldsT l) u ∧ l.length * 72 ≤ 140737488351232 ∧ (∀ f ∈ l, FOk f) ∧ T.bulkL [fieldsT l] ≤ Rows.uptoBulk d := by
  obtain ⟨ts, vs, rfl, h1, h2, h3⟩ := open_struct sFineQ (.head _) Tryz.underlying24 hv h hw
  obtain ⟨l, rfl, h4, h5⟩ := schema_of h2
  obtain ⟨u, r, rfl, h6, h7⟩ := AtL.cons_ h1
  obtain rfl := AtL.nil_ h7
  exact ⟨l, u, rfl, h6, h4, h5, h3⟩
end
end Go.Proofs.YtinmiekbhoemjaaGreatDoor.Qck
end
