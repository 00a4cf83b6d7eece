/- The walk of RewriteCompares. -/
import Derived.Test.YthpcacboapjbcaaQryKeptQ
import Derived.Test.YthpcacboapjbcaaQryRefSame
import Derived.Test.YthpcacboapjbcaaQryRSame
import Derived.Test.YthpcacboapjbcaaTwo
import Derived.Deep.RegionHeld3
import Derived.Outline
set_option linter.unusedVariables false
namespace Go.Proofs.Ythpcacboapjbcaa.RewriteComparesWalk
open Go.RowKit Words Tree QryP Kit Owned Qry Two

/-- The load of a query out of a block that holds one. -/
theorem load_q {s d : Nat} {p : String} {ρ : Operand → Value} {W : World} {after : Array Edge} {g : Nat} {v0 v1 v2 v3 v4 v5 v6 v7 v8 v9 : Value} (hp : ρ (.tmp s) = .pointer (some ⟨g, 0, none⟩)) (hb : Blk W g 25 #[v0, v1, v2, v3, v4, v5, v6, v7, v8, v9]) :
    (execOp ρ ⟨some d, .load 25 (.tmp s), 25, p, after, none⟩).run Try.prog W = .ok (.value (.agg #[v0, v1, v2, v3, v4, v5, v6, v7, v8, v9])) W := by
  obtain ⟨q0, q1, q2, q3, q4, q5, q6, q7, q8, q9⟩ := blk10 hb
  go_simp
theorem set10_blk {W : World} {g : Nat} {t : TypeId} {c0 c1 c2 c3 c4 c5 c6 c7 c8 c9 : Value} (h : Blk W g t #[c0, c1, c2, c3, c4, c5, c6, c7, c8, c9]) (v0 v1 v2 v3 v4 v5 v6 v7 v8 v9 : Value) : Blk ((((((((((W.setCell ⟨g, 0, none⟩ v0).setCell ⟨g, 1, none⟩ v1).setCell ⟨g, 2, none⟩ v2).setCell ⟨g, 3, none⟩ v3).setCell ⟨g, 4, none⟩ v4).setCell ⟨g, 5, none⟩ v5).setCell ⟨g, 6, none⟩ v6).setCell ⟨g, 7, none⟩ v7).setCell ⟨g, 8, none⟩ v8).setCell ⟨g, 9, none⟩ v9) g t #[v0, v1, v2, v3, v4, v5, v6, v7, v8, v9] := by
  have b0 : Blk (W.setCell ⟨g, 0, none⟩ v0) g t #[v0, c1, c2, c3, c4, c5, c6, c7, c8, c9] := h.set_ 0 v0
  have b1 : Blk ((W.setCell ⟨g, 0, none⟩ v0).setCell ⟨g, 1, none⟩ v1) g t #[v0, v1, c2, c3, c4, c5, c6, c7, c8, c9] := b0.set_ 1 v1
  have b2 : Blk (((W.setCell ⟨g, 0, none⟩ v0).setCell ⟨g, 1, none⟩ v1).setCell ⟨g, 2, none⟩ v2) g t #[v0, v1, v2, c3, c4, c5, c6, c7, c8, c9] := b1.set_ 2 v2
  have b3 : Blk ((((W.setCell ⟨g, 0, none⟩ v0).setCell ⟨g, 1, none⟩ v1).setCell ⟨g, 2, none⟩ v2).setCell ⟨g, 3, none⟩ v3) g t #[v0, v1, v2, v3, c4, c5, c6, c7, c8, c9] := b2.set_ 3 v3
  have b4 : Blk (((((W.setCell ⟨g, 0, none⟩ v0).setCell ⟨g, 1, none⟩ v1).setCell ⟨g, 2, none⟩ v2).setCell ⟨g, 3, none⟩ v3).setCell ⟨g, 4, none⟩ v4) g t #[v0, v1, v2, v3, v4, c5, c6, c7, c8, c9] := b3.set_ 4 v4
  have b5 : Blk ((((((W.setCell ⟨g, 0, none⟩ v0).setCell ⟨g, 1, none⟩ v1).setCell ⟨g, 2, none⟩ v2).setCell ⟨g, 3, none⟩ v3).setCell ⟨g, 4, none⟩ v4).setCell ⟨g, 5, none⟩ v5) g t #[v0, v1, v2, v3, v4, v5, c6, c7, c8, c9] := b4.set_ 5 v5
  have b6 : Blk (((((((W.setCell ⟨g, 0, none⟩ v0).setCell ⟨g, 1, none⟩ v1).setCell ⟨g, 2, none⟩ v2).setCell ⟨g, 3, none⟩ v3).setCell ⟨g, 4, none⟩ v4).setCell ⟨g, 5, none⟩ v5).setCell ⟨g, 6, none⟩ v6) g t #[v0, v1, v2, v3, v4, v5, v6, c7, c8, c9] := b5.set_ 6 v6
  have b7 : Blk ((((((((W.setCell ⟨g, 0, none⟩ v0).setCell ⟨g, 1, none⟩ v1).setCell ⟨g, 2, none⟩ v2).setCell ⟨g, 3, none⟩ v3).setCell ⟨g, 4, none⟩ v4).setCell ⟨g, 5, none⟩ v5).setCell ⟨g, 6, none⟩ v6).setCell ⟨g, 7, none⟩ v7) g t #[v0, v1, v2, v3, v4, v5, v6, v7, c8, c9] := b6.set_ 7 v7
  have b8 : Blk (((((((((W.setCell ⟨g, 0, none⟩ v0).setCell ⟨g, 1, none⟩ v1).setCell ⟨g, 2, none⟩ v2).setCell ⟨g, 3, none⟩ v3).setCell ⟨g, 4, none⟩ v4).setCell ⟨g, 5, none⟩ v5).setCell ⟨g, 6, none⟩ v6).setCell ⟨g, 7, none⟩ v7).setCell ⟨g, 8, none⟩ v8) g t #[v0, v1, v2, v3, v4, v5, v6, v7, v8, c9] := b7.set_ 8 v8
  have b9 : Blk ((((((((((W.setCell ⟨g, 0, none⟩ v0).setCell ⟨g, 1, none⟩ v1).setCell ⟨g, 2, none⟩ v2).setCell ⟨g, 3, none⟩ v3).setCell ⟨g, 4, none⟩ v4).setCell ⟨g, 5, none⟩ v5).setCell ⟨g, 6, none⟩ v6).setCell ⟨g, 7, none⟩ v7).setCell ⟨g, 8, none⟩ v8).setCell ⟨g, 9, none⟩ v9) g t #[v0, v1, v2, v3, v4, v5, v6, v7, v8, v9] := b8.set_ 9 v9
  exact b9
theorem set10_grown (W : World) (g : Nat) (v0 v1 v2 v3 v4 v5 v6 v7 v8 v9 : Value) : W.grownBy ((((((((((W.setCell ⟨g, 0, none⟩ v0).setCell ⟨g, 1, none⟩ v1).setCell ⟨g, 2, none⟩ v2).setCell ⟨g, 3, none⟩ v3).setCell ⟨g, 4, none⟩ v4).setCell ⟨g, 5, none⟩ v5).setCell ⟨g, 6, none⟩ v6).setCell ⟨g, 7, none⟩ v7).setCell ⟨g, 8, none⟩ v8).setCell ⟨g, 9, none⟩ v9) (some g) := by
  have b0 : W.grownBy (W.setCell ⟨g, 0, none⟩ v0) (some g) := only_setCell (World.grownBy.refl W _) (.inl rfl) v0
  have b1 : W.grownBy ((W.setCell ⟨g, 0, none⟩ v0).setCell ⟨g, 1, none⟩ v1) (some g) := only_setCell b0 (.inl rfl) v1
  have b2 : W.grownBy (((W.setCell ⟨g, 0, none⟩ v0).setCell ⟨g, 1, none⟩ v1).setCell ⟨g, 2, none⟩ v2) (some g) := only_setCell b1 (.inl rfl) v2
  have b3 : W.grownBy ((((W.setCell ⟨g, 0, none⟩ v0).setCell ⟨g, 1, none⟩ v1).setCell ⟨g, 2, none⟩ v2).setCell ⟨g, 3, none⟩ v3) (some g) := only_setCell b2 (.inl rfl) v3
  have b4 : W.grownBy (((((W.setCell ⟨g, 0, none⟩ v0).setCell ⟨g, 1, none⟩ v1).setCell ⟨g, 2, none⟩ v2).setCell ⟨g, 3, none⟩ v3).setCell ⟨g, 4, none⟩ v4) (some g) := only_setCell b3 (.inl rfl) v4
  have b5 : W.grownBy ((((((W.setCell ⟨g, 0, none⟩ v0).setCell ⟨g, 1, none⟩ v1).setCell ⟨g, 2, none⟩ v2).setCell ⟨g, 3, none⟩ v3).setCell ⟨g, 4, none⟩ v4).setCell ⟨g, 5, none⟩ v5) (some g) := only_setCell b4 (.inl rfl) v5
  have b6 : W.grownBy (((((((W.setCell ⟨g, 0, none⟩ v0).setCell ⟨g, 1, none⟩ v1).setCell ⟨g, 2, none⟩ v2).setCell ⟨g, 3, none⟩ v3).setCell ⟨g, 4, none⟩ v4).setCell ⟨g, 5, none⟩ v5).setCell ⟨g, 6, none⟩ v6) (some g) := only_setCell b5 (.inl rfl) v6
  have b7 : W.grownBy ((((((((W.setCell ⟨g, 0, none⟩ v0).setCell ⟨g, 1, none⟩ v1).setCell ⟨g, 2, none⟩ v2).setCell ⟨g, 3, none⟩ v3).setCell ⟨g, 4, none⟩ v4).setCell ⟨g, 5, none⟩ v5).setCell ⟨g, 6, none⟩ v6).setCell ⟨g, 7, none⟩ v7) (some g) := only_setCell b6 (.inl rfl) v7
  have b8 : W.grownBy (((((((((W.setCell ⟨g, 0, none⟩ v0).setCell ⟨g, 1, none⟩ v1).setCell ⟨g, 2, none⟩ v2).setCell ⟨g, 3, none⟩ v3).setCell ⟨g, 4, none⟩ v4).setCell ⟨g, 5, none⟩ v5).setCell ⟨g, 6, none⟩ v6).setCell ⟨g, 7, none⟩ v7).setCell ⟨g, 8, none⟩ v8) (some g) := only_setCell b7 (.inl rfl) v8
  have b9 : W.grownBy ((((((((((W.setCell ⟨g, 0, none⟩ v0).setCell ⟨g, 1, none⟩ v1).setCell ⟨g, 2, none⟩ v2).setCell ⟨g, 3, none⟩ v3).setCell ⟨g, 4, none⟩ v4).setCell ⟨g, 5, none⟩ v5).setCell ⟨g, 6, none⟩ v6).setCell ⟨g, 7, none⟩ v7).setCell ⟨g, 8, none⟩ v8).setCell ⟨g, 9, none⟩ v9) (some g) := only_setCell b8 (.inl rfl) v9
  exact b9
/-- The store of a query into a variable of its own. -/
theorem store_q {s d : Nat} {p : String} {ρ : Operand → Value} {W : World} {after : Array Edge} {g : Nat} {us : List Value} {q : QT} {S : Nat → Prop} {c0 c1 c2 c3 c4 c5 c6 c7 c8 c9 : Value} (hp : ρ (.tmp s) = .pointer (some ⟨g, 0, none⟩)) (hv : ρ (.tmp d) = .agg us.toArray) {sent : Nat → List (List Value)} (hu : T.AtL sent W S (cells q) us)
    (hb : Blk W g 25 #[c0, c1, c2, c3, c4, c5, c6, c7, c8, c9]) :
    ∃ W', (execOp ρ ⟨none, .store 25 (.tmp s) (.tmp d), 0, p, after, none⟩).run Try.prog W = .ok .skip W' ∧ Blk W' g 25 us.toArray ∧ W.grownBy W' (some g) ∧ W'.heap.size = W.heap.size := by
  obtain ⟨kd, oc, f, t, u, lo, hi, b, op, ks⟩ := q
  obtain ⟨vl, vh, vk, rfl, hl, hh, hk⟩ := at_cells hu
  obtain ⟨L, l, rfl⟩ := at_form' hl
  obtain ⟨H, h, rfl⟩ := at_form' hh
  obtain ⟨K, k, rfl⟩ := at_form' hk
  obtain ⟨q0, q1, q2, q3, q4, q5, q6, q7, q8, q9⟩ := blk10 hb
  have z0 := hb.frozen 0
  have z1 := hb.frozen 1
  have z2 := hb.frozen 2
  have z3 := hb.frozen 3
  have z4 := hb.frozen 4
  have z5 := hb.frozen 5
  have z6 := hb.frozen 6
  have z7 := hb.frozen 7
  have z8 := hb.frozen 8
  have z9 := hb.frozen 9
  refine ⟨_, by go_simp; rfl, ?_, ?_, set10_size _ _ _ _ _ _ _ _ _ _ _ _⟩
  · exact set10_blk hb _ _ _ _ _ _ _ _ _ _
  · exact set10_grown _ _ _ _ _ _ _ _ _ _ _ _
set_option maxRecDepth 100000 in
set_option maxHeartbeats 4000000 in
theorem walk (qa qb : QT) (va vb : List Value) (w : World) (oka : Ok qa) (okb : Ok qb) (ha : T.AtL bare w (fun g => g < w.heap.size) (cells qa) va) (hb : T.AtL bare w (fun g => g < w.heap.size) (cells qb) vb) :
    Calls Try.prog 3 #[.agg va.toArray, .agg vb.toArray] w (BoolB true w) := by
  obtain ⟨r, hr⟩ : ∃ r : Bool, (r = true ↔ qa = qb) := by
    by_cases h : qa = qb
    · exact ⟨true, by simp [h]⟩
    · exact ⟨false, by simp [h]⟩
  have HL1 : Hid (∀ W, Below w.heap.size w W → Calls Try.prog 4 #[.agg va.toArray] W (LentQ qa W)) := Lib.hid (fun W hW => lentQ_any _ qa va W (Nat.le_refl _) oka (AtL.below ha hW (fun g hg => Nat.lt_of_lt_of_le hg hW.size)))
  have HL2 : Hid (∀ W, Below w.heap.size w W → Calls Try.prog 4 #[.agg vb.toArray] W (LentQ qb W)) := Lib.hid (fun W hW => lentQ_any _ qb vb W (Nat.le_refl _) okb (AtL.below hb hW (fun g hg => Nat.lt_of_lt_of_le hg hW.size)))
  have HR2 : Hid (∀ W, Below w.heap.size w W → Calls Try.prog 6 #[.agg va.toArray, .agg vb.toArray] W (BoolB r W)) := Lib.hid (fun W hW => refSame_any _ qa qb va vb W (Nat.le_refl _) oka okb (AtL.below ha hW (fun g hg => Nat.lt_of_lt_of_le hg hW.size)) (AtL.below hb hW (fun g hg => Nat.lt_of_lt_of_le hg hW.size)) r hr)
  have HX : Hid (∀ (xs ys : List Value) (W : World), T.AtL lent W (fun g => g < W.heap.size) (cells qa) xs → T.AtL lent W (fun g => g < W.heap.size) (cells qb) ys → ∀ V, Below W.heap.size W V → Below w.heap.size w V →
      Calls Try.prog 5 #[.agg xs.toArray, .agg ys.toArray] V (BoolB r V) ∧ Calls Try.prog 5 #[.agg xs.toArray, .agg xs.toArray] V (BoolB true V) ∧
      Calls Try.prog 7 #[.agg xs.toArray, .agg va.toArray] V (BoolB true V) ∧ Calls Try.prog 7 #[.agg ys.toArray, .agg vb.toArray] V (BoolB true V)) := Lib.hid (fun xs ys W hx hy V hV hw => by
    have hx' := AtL.below (S' := fun g => g < V.heap.size) hx hV (fun g hg => Nat.lt_of_lt_of_le hg hV.size)
    have hy' := AtL.below (S' := fun g => g < V.heap.size) hy hV (fun g hg => Nat.lt_of_lt_of_le hg hV.size)
    exact ⟨rsame_any _ qa qb xs ys V (Nat.le_refl _) oka okb (AtL.bare hx') (AtL.bare hy') r hr, rsame_any _ qa qa xs xs V (Nat.le_refl _) oka oka (AtL.bare hx') (AtL.bare hx') true (by simp),
      keptQ_any _ qa xs va V (Nat.le_refl _) oka hx' (AtL.below ha hw (fun g hg => Nat.lt_of_lt_of_le hg hw.size)), keptQ_any _ qb ys vb V (Nat.le_refl _) okb hy' (AtL.below hb hw (fun g hg => Nat.lt_of_lt_of_le hg hw.size))⟩)
  clear hr oka okb
  obtain ⟨kda, oca, fa, ta, ua, loa, hia, ba, opa, ksa⟩ := qa
  obtain ⟨kdb, ocb, fb, tb, ub, lob, hib, bb, opb, ksb⟩ := qb
  obtain ⟨l1, h1, k1, rfl, g1, g2, g3⟩ := at_cells ha
  obtain ⟨l2, h2, k2, rfl, g4, g5, g6⟩ := at_cells hb
  obtain ⟨A1a, c1a, rfl⟩ := at_form' g1
  obtain ⟨A2a, c2a, rfl⟩ := at_form' g2
  obtain ⟨A3a, c3a, rfl⟩ := at_form' g3
  obtain ⟨A1b, c1b, rfl⟩ := at_form' g4
  obtain ⟨A2b, c2b, rfl⟩ := at_form' g5
  obtain ⟨A3b, c3b, rfl⟩ := at_form' g6
  clear ha hb g1 g2 g3 g4 g5 g6
  go_enter Try.func3, Try.ntmps3
  go_upto_region 1 with fail
  have BA := Lib.hid (blk_a w #[.int .i64 kda, .int .i64 oca, .string fa, .string ta, .string ua, .slice A1a loa.length c1a, .slice A2a hia.length c2a, .int .i64 ba, .int .i64 opa, .slice A3a ksa.length c3a] #[.int .i64 kdb, .int .i64 ocb, .string fb, .string tb, .string ub, .slice A1b lob.length c1b, .slice A2b hib.length c2b, .int .i64 bb, .int .i64 opb, .slice A3b ksb.length c3b] 25 25)
  have BB := Lib.hid (blk_b w #[.int .i64 kda, .int .i64 oca, .string fa, .string ta, .string ua, .slice A1a loa.length c1a, .slice A2a hia.length c2a, .int .i64 ba, .int .i64 opa, .slice A3a ksa.length c3a] #[.int .i64 kdb, .int .i64 ocb, .string fb, .string tb, .string ub, .slice A1b lob.length c1b, .slice A2b hib.length c2b, .int .i64 bb, .int .i64 opb, .slice A3b ksb.length c3b] 25 25)
  have HB := Lib.hid (below2 (w := w) (.cells #[.int .i64 kda, .int .i64 oca, .string fa, .string ta, .string ua, .slice A1a loa.length c1a, .slice A2a hia.length c2a, .int .i64 ba, .int .i64 opa, .slice A3a ksa.length c3a] 25) (.cells #[.int .i64 kdb, .int .i64 ocb, .string fb, .string tb, .string ub, .slice A1b lob.length c1b, .slice A2b hib.length c2b, .int .i64 bb, .int .i64 opb, .slice A3b ksb.length c3b] 25))
  have hz : ((w.alloc (.cells #[.int .i64 kda, .int .i64 oca, .string fa, .string ta, .string ua, .slice A1a loa.length c1a, .slice A2a hia.length c2a, .int .i64 ba, .int .i64 opa, .slice A3a ksa.length c3a] 25)).alloc (.cells #[.int .i64 kdb, .int .i64 ocb, .string fb, .string tb, .string ub, .slice A1b lob.length c1b, .slice A2b hib.length c2b, .int .i64 bb, .int .i64 opb, .slice A3b ksb.length c3b] 25)).heap.size = w.heap.size + 2 := by simp
  have HZ := Lib.hid hz; clear hz
  generalize ((w.alloc (.cells #[.int .i64 kda, .int .i64 oca, .string fa, .string ta, .string ua, .slice A1a loa.length c1a, .slice A2a hia.length c2a, .int .i64 ba, .int .i64 opa, .slice A3a ksa.length c3a] 25)).alloc (.cells #[.int .i64 kdb, .int .i64 ocb, .string fb, .string tb, .string ub, .slice A1b lob.length c1b, .slice A2b hib.length c2b, .int .i64 bb, .int .i64 opb, .slice A3b ksb.length c3b] 25)) = W0 at *
  refine two_lent (P := Try.prog) (A1 := 25) (A2 := 25) (T1 := 25) (T2 := 25) (f1 := 4) (f2 := 4) (s2 := 2) (s3 := 3) (s5 := 5) (s6 := 6) (s7 := 7) (s8 := 8) (s9 := 9) (s10 := 10) (p := "law.go:19")
    (x1 := .agg #[.int .i64 kda, .int .i64 oca, .string fa, .string ta, .string ua, .slice A1a loa.length c1a, .slice A2a hia.length c2a, .int .i64 ba, .int .i64 opa, .slice A3a ksa.length c3a]) (x2 := .agg #[.int .i64 kdb, .int .i64 ocb, .string fb, .string tb, .string ub, .slice A1b lob.length c1b, .slice A2b hib.length c2b, .int .i64 bb, .int .i64 opb, .slice A3b ksb.length c3b]) (z1 := #[.int .i64 0, .int .i64 0, .string ⟨#[]⟩, .string ⟨#[]⟩, .string ⟨#[]⟩, .slice none 0 0, .slice none 0 0, .int .i64 0, .int .i64 0, .slice none 0 0]) (z2 := #[.int .i64 0, .int .i64 0, .string ⟨#[]⟩, .string ⟨#[]⟩, .string ⟨#[]⟩, .slice none 0 0, .slice none 0 0, .int .i64 0, .int .i64 0, .slice none 0 0]) (m1 := lent) (m2 := lent) (ts1 := cells (.mk kda oca fa ta ua loa hia ba opa ksa)) (ts2 := cells (.mk kdb ocb fb tb ub lob hib bb opb ksb)) (by kernel_rfl) ?six (by decide) (by decide) ?does ?after
  case six => exact ⟨by decide, by decide, by decide, by decide, by decide, by decide, by decide, by decide, by decide, by decide, by decide, by decide, by decide, by decide, by decide, by simp⟩
  case does =>
    refine ⟨?_, ?_, ?_, ?_, ?_, ?_, ?_, ?_, ?_, ?_⟩
    · intro ρ W after h1 h2
      exact load_q (h1.trans rfl) (BA.out.below h2 BA.out.lt)
    · intro ρ W after h1 h2
      exact load_q (h1.trans rfl) (BB.out.below h2 BB.out.lt)
    · intro ρ W after h1 h2
      go_simp
    · intro ρ W after h1 h2
      go_simp
    · intro ρ W after
      go_simp
    · intro ρ W after
      go_simp
    · intro ρ W after g us S h1 h2 h3 h4
      exact store_q h1 h2 h3 h4
    · intro ρ W after g us S h1 h2 h3 h4
      exact store_q h1 h2 h3 h4
    · intro W hW
      exact HL1.out W (HB.out.trans (hW.mono (by rw [HZ.out]; omega)))
    · intro W hW
      exact HL2.out W (HB.out.trans (hW.mono (by rw [HZ.out]; omega)))
  case after =>
    intro g5 g6 us1 us2 W hW n5 n6 n56 l5 l6 B5 B6 A5 A6
    obtain ⟨x5, x6, x9, rfl, a1, a2, a3⟩ := at_cells A5
    obtain ⟨y5, y6, y9, rfl, a4, a5, a6⟩ := at_cells A6
    obtain ⟨L1, m1, rfl⟩ := at_form' a1
    obtain ⟨L2, m2, rfl⟩ := at_form' a2
    obtain ⟨L3, m3, rfl⟩ := at_form' a3
    obtain ⟨M1, e1, rfl⟩ := at_form' a4
    obtain ⟨M2, e2, rfl⟩ := at_form' a5
    obtain ⟨M3, e3, rfl⟩ := at_form' a6
    have HW : Hid (Below w.heap.size w W) := Lib.hid (HB.out.trans (hW.mono (by rw [HZ.out]; omega)))
    have HC := Lib.hid (HX.out _ _ W (AtL.keep (fun _ _ => rfl) (fun g h => h.2.2.2) A5) (AtL.keep (fun _ _ => rfl) (fun g h => h.2.2.2) A6))
    have C1 := Lib.hid (fun V hV => (HC.out V hV (HW.out.trans (hV.mono HW.out.size))).1)
    have C3 := Lib.hid (fun V hV => (HC.out V hV (HW.out.trans (hV.mono HW.out.size))).2.1)
    have C4 := Lib.hid (fun V hV => (HC.out V hV (HW.out.trans (hV.mono HW.out.size))).2.2.1)
    have C5 := Lib.hid (fun V hV => (HC.out V hV (HW.out.trans (hV.mono HW.out.size))).2.2.2)
    have C2 := Lib.hid (fun V (hV : Below W.heap.size W V) => HR2.out V (HW.out.trans (hV.mono HW.out.size)))
    have BA2 := Lib.hid (BA.out.below hW BA.out.lt)
    have BB2 := Lib.hid (BB.out.below hW BB.out.lt)
    have B52 := Lib.hid B5
    have B62 := Lib.hid B6
    have SF : Hid (∀ w', Below W.heap.size W w' → Hid (Below W.heap.size W w') ∧ w'.cell? ⟨w.heap.size, 0, none⟩ = some (.int .i64 kda) ∧ w'.cell? ⟨w.heap.size, 1, none⟩ = some (.int .i64 oca) ∧ w'.cell? ⟨w.heap.size, 2, none⟩ = some (.string fa) ∧ w'.cell? ⟨w.heap.size, 3, none⟩ = some (.string ta) ∧ w'.cell? ⟨w.heap.size, 4, none⟩ = some (.string ua) ∧ w'.cell? ⟨w.heap.size, 5, none⟩ = some (.slice A1a loa.length c1a) ∧ w'.cell? ⟨w.heap.size, 6, none⟩ = some (.slice A2a hia.length c2a) ∧ w'.cell? ⟨w.heap.size, 7, none⟩ = some (.int .i64 ba) ∧ w'.cell? ⟨w.heap.size, 8, none⟩ = some (.int .i64 opa) ∧ w'.cell? ⟨w.heap.size, 9, none⟩ = some (.slice A3a ksa.length c3a) ∧ w'.cell? ⟨w.heap.size + 1, 0, none⟩ = some (.int .i64 kdb) ∧ w'.cell? ⟨w.heap.size + 1, 1, none⟩ = some (.int .i64 ocb) ∧ w'.cell? ⟨w.heap.size + 1, 2, none⟩ = some (.string fb) ∧ w'.cell? ⟨w.heap.size + 1, 3, none⟩ = some (.string tb) ∧ w'.cell? ⟨w.heap.size + 1, 4, none⟩ = some (.string ub) ∧ w'.cell? ⟨w.heap.size + 1, 5, none⟩ = some (.slice A1b lob.length c1b) ∧ w'.cell? ⟨w.heap.size + 1, 6, none⟩ = some (.slice A2b hib.length c2b) ∧ w'.cell? ⟨w.heap.size + 1, 7, none⟩ = some (.int .i64 bb) ∧ w'.cell? ⟨w.heap.size + 1, 8, none⟩ = some (.int .i64 opb) ∧ w'.cell? ⟨w.heap.size + 1, 9, none⟩ = some (.slice A3b ksb.length c3b) ∧ w'.cell? ⟨g5, 0, none⟩ = some (.int .i64 kda) ∧ w'.cell? ⟨g5, 1, none⟩ = some (.int .i64 oca) ∧ w'.cell? ⟨g5, 2, none⟩ = some (.string fa) ∧ w'.cell? ⟨g5, 3, none⟩ = some (.string ta) ∧ w'.cell? ⟨g5, 4, none⟩ = some (.string ua) ∧ w'.cell? ⟨g5, 5, none⟩ = some (.slice L1 loa.length m1) ∧ w'.cell? ⟨g5, 6, none⟩ = some (.slice L2 hia.length m2) ∧ w'.cell? ⟨g5, 7, none⟩ = some (.int .i64 ba) ∧ w'.cell? ⟨g5, 8, none⟩ = some (.int .i64 opa) ∧ w'.cell? ⟨g5, 9, none⟩ = some (.slice L3 ksa.length m3) ∧ w'.cell? ⟨g6, 0, none⟩ = some (.int .i64 kdb) ∧ w'.cell? ⟨g6, 1, none⟩ = some (.int .i64 ocb) ∧ w'.cell? ⟨g6, 2, none⟩ = some (.string fb) ∧ w'.cell? ⟨g6, 3, none⟩ = some (.string tb) ∧ w'.cell? ⟨g6, 4, none⟩ = some (.string ub) ∧ w'.cell? ⟨g6, 5, none⟩ = some (.slice M1 lob.length e1) ∧ w'.cell? ⟨g6, 6, none⟩ = some (.slice M2 hib.length e2) ∧ w'.cell? ⟨g6, 7, none⟩ = some (.int .i64 bb) ∧ w'.cell? ⟨g6, 8, none⟩ = some (.int .i64 opb) ∧ w'.cell? ⟨g6, 9, none⟩ = some (.slice M3 ksb.length e3)) := Lib.hid (fun w' h => by
      obtain ⟨p0, p1, p2, p3, p4, p5, p6, p7, p8, p9⟩ := blk10 (BA2.out.below h BA2.out.lt)
      obtain ⟨q0, q1, q2, q3, q4, q5, q6, q7, q8, q9⟩ := blk10 (BB2.out.below h BB2.out.lt)
      obtain ⟨r0, r1, r2, r3, r4, r5, r6, r7, r8, r9⟩ := blk10 (B52.out.below h B52.out.lt)
      obtain ⟨s0, s1, s2, s3, s4, s5, s6, s7, s8, s9⟩ := blk10 (B62.out.below h B62.out.lt)
      exact ⟨Lib.hid h, p0, p1, p2, p3, p4, p5, p6, p7, p8, p9, q0, q1, q2, q3, q4, q5, q6, q7, q8, q9, r0, r1, r2, r3, r4, r5, r6, r7, r8, r9, s0, s1, s2, s3, s4, s5, s6, s7, s8, s9⟩)
    clear HC HX HR2 HL1 HL2 BA BB BA2 BB2 B52 B62 B5 B6 A5 A6 hW HB HZ a1 a2 a3 a4 a5 a6 n5 n6 n56 l5 l6
    simp only [put6, Act.put, List.setIfInBounds_toArray, List.set_cons_zero, List.set_cons_succ]
    have BW0 : Hid (Below W.heap.size W W.drew) := Lib.hid (Below.refl _ _).drew
    go_wp2_with fail
    go_region_held3 (fun w' => Hid (Below W.heap.size W w') ∧ w'.cell? ⟨w.heap.size, 0, none⟩ = some (.int .i64 kda) ∧ w'.cell? ⟨w.heap.size, 1, none⟩ = some (.int .i64 oca) ∧ w'.cell? ⟨w.heap.size, 2, none⟩ = some (.string fa) ∧ w'.cell? ⟨w.heap.size, 3, none⟩ = some (.string ta) ∧ w'.cell? ⟨w.heap.size, 4, none⟩ = some (.string ua) ∧ w'.cell? ⟨w.heap.size, 5, none⟩ = some (.slice A1a loa.length c1a) ∧ w'.cell? ⟨w.heap.size, 6, none⟩ = some (.slice A2a hia.length c2a) ∧ w'.cell? ⟨w.heap.size, 7, none⟩ = some (.int .i64 ba) ∧ w'.cell? ⟨w.heap.size, 8, none⟩ = some (.int .i64 opa) ∧ w'.cell? ⟨w.heap.size, 9, none⟩ = some (.slice A3a ksa.length c3a) ∧ w'.cell? ⟨w.heap.size + 1, 0, none⟩ = some (.int .i64 kdb) ∧ w'.cell? ⟨w.heap.size + 1, 1, none⟩ = some (.int .i64 ocb) ∧ w'.cell? ⟨w.heap.size + 1, 2, none⟩ = some (.string fb) ∧ w'.cell? ⟨w.heap.size + 1, 3, none⟩ = some (.string tb) ∧ w'.cell? ⟨w.heap.size + 1, 4, none⟩ = some (.string ub) ∧ w'.cell? ⟨w.heap.size + 1, 5, none⟩ = some (.slice A1b lob.length c1b) ∧ w'.cell? ⟨w.heap.size + 1, 6, none⟩ = some (.slice A2b hib.length c2b) ∧ w'.cell? ⟨w.heap.size + 1, 7, none⟩ = some (.int .i64 bb) ∧ w'.cell? ⟨w.heap.size + 1, 8, none⟩ = some (.int .i64 opb) ∧ w'.cell? ⟨w.heap.size + 1, 9, none⟩ = some (.slice A3b ksb.length c3b) ∧ w'.cell? ⟨g5, 0, none⟩ = some (.int .i64 kda) ∧ w'.cell? ⟨g5, 1, none⟩ = some (.int .i64 oca) ∧ w'.cell? ⟨g5, 2, none⟩ = some (.string fa) ∧ w'.cell? ⟨g5, 3, none⟩ = some (.string ta) ∧ w'.cell? ⟨g5, 4, none⟩ = some (.string ua) ∧ w'.cell? ⟨g5, 5, none⟩ = some (.slice L1 loa.length m1) ∧ w'.cell? ⟨g5, 6, none⟩ = some (.slice L2 hia.length m2) ∧ w'.cell? ⟨g5, 7, none⟩ = some (.int .i64 ba) ∧ w'.cell? ⟨g5, 8, none⟩ = some (.int .i64 opa) ∧ w'.cell? ⟨g5, 9, none⟩ = some (.slice L3 ksa.length m3) ∧ w'.cell? ⟨g6, 0, none⟩ = some (.int .i64 kdb) ∧ w'.cell? ⟨g6, 1, none⟩ = some (.int .i64 ocb) ∧ w'.cell? ⟨g6, 2, none⟩ = some (.string fb) ∧ w'.cell? ⟨g6, 3, none⟩ = some (.string tb) ∧ w'.cell? ⟨g6, 4, none⟩ = some (.string ub) ∧ w'.cell? ⟨g6, 5, none⟩ = some (.slice M1 lob.length e1) ∧ w'.cell? ⟨g6, 6, none⟩ = some (.slice M2 hib.length e2) ∧ w'.cell? ⟨g6, 7, none⟩ = some (.int .i64 bb) ∧ w'.cell? ⟨g6, 8, none⟩ = some (.int .i64 opb) ∧ w'.cell? ⟨g6, 9, none⟩ = some (.slice M3 ksb.length e3))
      (first | exact SF.out _ BW5.out | exact SF.out _ BW4.out | exact SF.out _ BW3.out | exact SF.out _ BW2.out | exact SF.out _ BW1.out | exact SF.out _ BW0.out)
      (first
        | (go_at_call 5; (with_reducible refine (C1.out _ BW0.out).mono ?_); rintro e W1 ⟨rfl, q⟩; have BW1 := Lib.hid (BW0.out.trans (q.mono BW0.out.size)); clear q)
        | (go_at_call 6; (with_reducible refine (C2.out _ BW1.out).mono ?_); rintro e W2 ⟨rfl, q⟩; have BW2 := Lib.hid (BW1.out.trans (q.mono BW1.out.size)); clear q)
        | (go_at_call 5; (with_reducible refine (C3.out _ BW2.out).mono ?_); rintro e W3 ⟨rfl, q⟩; have BW3 := Lib.hid (BW2.out.trans (q.mono BW2.out.size)); clear q)
        | (go_at_call 7; (with_reducible refine (C4.out _ BW3.out).mono ?_); rintro e W4 ⟨rfl, q⟩; have BW4 := Lib.hid (BW3.out.trans (q.mono BW3.out.size)); clear q)
        | (go_at_call 7; (with_reducible refine (C5.out _ BW4.out).mono ?_); rintro e W5 ⟨rfl, q⟩; have BW5 := Lib.hid (BW4.out.trans (q.mono BW4.out.size)); clear q))
    go_wp2_with fail
    go_ret
    exact ⟨rfl, HW.out.trans (BW5.out.mono HW.out.size)⟩
end Go.Proofs.Ythpcacboapjbcaa.RewriteComparesWalk
