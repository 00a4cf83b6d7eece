/- Contracts: a query that was lent is as it was. A region that draws its order and lays two results in new variables: 'x, y := f(a), g(b)' where x and y are structs that lie in memory: two loads, two calls, two allocations, two stores, whatever order the edges allow. Queries in variables of their own: loads and stores. (Split off XRewriteComparesWalk.) How bodyS goes, step by step. -/
import Derived.Test.YtinmiekbhoemjaaDoorQrySame
import Derived.Test.YtinmiekbhoemjaaDoorQryLentQ
import Derived.Test.YtinmiekbhoemjaaDoorTree
import Derived.Orders
import Derived.Test.YtinmiekbhoemjaaDoorQryPar9
section
set_option linter.unusedVariables false
namespace Go.Proofs.YtinmiekbhoemjaaDoor.Qry
open Go.RowKit Words Tree QryP Kit Owned

end Go.Proofs.YtinmiekbhoemjaaDoor.Qry
end
section
set_option linter.unusedVariables false
namespace Go.Proofs.YtinmiekbhoemjaaDoor.Two
open Go.RowKit Words Tree

section
variable {a : Act} {s5 s6 s7 s8 s9 s10 : Nat} {v5 v6 v7 v8 v9 v10 : Value}
/-- The six slots are six. -/
structure Six (a : Act) (s5 s6 s7 s8 s9 s10 : Nat) : Prop where
  n56 : s5 ≠ s6
  n57 : s5 ≠ s7
  n58 : s5 ≠ s8
  n59 : s5 ≠ s9
  n50 : s5 ≠ s10
  n67 : s6 ≠ s7
  n68 : s6 ≠ s8
  n69 : s6 ≠ s9
  n60 : s6 ≠ s10
  n78 : s7 ≠ s8
  n79 : s7 ≠ s9
  n70 : s7 ≠ s10
  n89 : s8 ≠ s9
  n80 : s8 ≠ s10
  n90 : s9 ≠ s10
  lt : s5 < a.tmps.size ∧ s6 < a.tmps.size ∧ s7 < a.tmps.size ∧ s8 < a.tmps.size ∧ s9 < a.tmps.size ∧ s10 < a.tmps.size
variable (h : Six a s5 s6 s7 s8 s9 s10)
include h
end

section
variable (P : Program) (A1 A2 T1 T2 : TypeId) (f1 f2 : FuncId) (s2 s3 s5 s6 s7 s8 s9 s10 : Nat) (p : String)
/-- What is known of the operations: each in whatever order. -/
structure Does (a : Act) (w : World) (x1 x2 : Value) (z1 z2 : Array Value) (s1 s2' : Nat → List (List Value)) (ts1 ts2 : List T) : Prop where
  load1 : ∀ (ρ : Operand → Value) W (after : Array Edge), ρ (.tmp s2) = a.eval (.tmp s2) → Below w.heap.size w W → (execOp ρ ⟨some s7, .load A1 (.tmp s2), A1, p, after, none⟩).run P W = .ok (.value x1) W
  load2 : ∀ (ρ : Operand → Value) W (after : Array Edge), ρ (.tmp s3) = a.eval (.tmp s3) → Below w.heap.size w W → (execOp ρ ⟨some s9, .load A2 (.tmp s3), A2, p, after, none⟩).run P W = .ok (.value x2) W
  call1 : ∀ (ρ : Operand → Value) W (after : Array Edge), ρ (.tmp s7) = x1 → ρ (.func f1) = .func (.func f1) #[] #[] → (execOp ρ ⟨some s8, .call { callee := .value (.func f1), args := #[.tmp s7], argTypes := #[A1] }, T1, p, after, none⟩).run P W = .ok (.enter f1 #[x1]) W
  call2 : ∀ (ρ : Operand → Value) W (after : Array Edge), ρ (.tmp s9) = x2 → ρ (.func f2) = .func (.func f2) #[] #[] → (execOp ρ ⟨some s10, .call { callee := .value (.func f2), args := #[.tmp s9], argTypes := #[A2] }, T2, p, after, none⟩).run P W = .ok (.enter f2 #[x2]) W
  alloc1 : ∀ (ρ : Operand → Value) W (after : Array Edge), (execOp ρ ⟨some s5, .alloc T1, 0, p, after, none⟩).run P W = .ok (.value (.pointer (some ⟨W.heap.size, 0, none⟩))) (W.alloc (.cells z1 T1))
  alloc2 : ∀ (ρ : Operand → Value) W (after : Array Edge), (execOp ρ ⟨some s6, .alloc T2, 0, p, after, none⟩).run P W = .ok (.value (.pointer (some ⟨W.heap.size, 0, none⟩))) (W.alloc (.cells z2 T2))
  store1 : ∀ (ρ : Operand → Value) W (after : Array Edge) (g : Nat) (us : List Value) (S : Nat → Prop), ρ (.tmp s5) = .pointer (some ⟨g, 0, none⟩) → ρ (.tmp s8) = .agg us.toArray → T.AtL s1 W S ts1 us → Blk W g T1 z1 →
    ∃ W', (execOp ρ ⟨none, .store T1 (.tmp s5) (.tmp s8), 0, p, after, none⟩).run P W = .ok .skip W' ∧ Blk W' g T1 us.toArray ∧ W.grownBy W' (some g) ∧ W'.heap.size = W.heap.size
  store2 : ∀ (ρ : Operand → Value) W (after : Array Edge) (g : Nat) (us : List Value) (S : Nat → Prop), ρ (.tmp s6) = .pointer (some ⟨g, 0, none⟩) → ρ (.tmp s10) = .agg us.toArray → T.AtL s2' W S ts2 us → Blk W g T2 z2 →
    ∃ W', (execOp ρ ⟨none, .store T2 (.tmp s6) (.tmp s10), 0, p, after, none⟩).run P W = .ok .skip W' ∧ Blk W' g T2 us.toArray ∧ W.grownBy W' (some g) ∧ W'.heap.size = W.heap.size
  does1 : ∀ W, Below w.heap.size w W → Calls P f1 #[x1] W fun e W' => ∃ us, e = .returned (.agg us.toArray) ∧ T.AtL s1 W' (fun g => W.heap.size ≤ g ∧ g < W'.heap.size) ts1 us ∧ Below W.heap.size W W'
  does2 : ∀ W, Below w.heap.size w W → Calls P f2 #[x2] W fun e W' => ∃ us, e = .returned (.agg us.toArray) ∧ T.AtL s2' W' (fun g => W.heap.size ≤ g ∧ g < W'.heap.size) ts2 us ∧ Below W.heap.size W W'
variable {P A1 A2 T1 T2 f1 f2 s2 s3 s5 s6 s7 s8 s9 s10 p}
variable {a : Act} {w : World} {x1 x2 : Value} {z1 z2 : Array Value} {m1 m2 : Nat → List (List Value)} {ts1 ts2 : List T}

/-- What is known of a state: which operations have come up, whose a block is, what the slots hold. -/
structure Inv (w : World) (T1 T2 : TypeId) (x1 x2 : Value) (z1 z2 : Array Value) (m1 m2 : Nat → List (List Value)) (ts1 ts2 : List T)
    (b0 b1 b2 b3 b4 b5 b6 b7 : Bool) (own : Nat → Nat) (v5 v6 v7 v8 v9 v10 : Value) (W : World) : Prop where
  below : Below w.heap.size w W
  l1 : b0 = true → v7 = x1
  l2 : b2 = true → v9 = x2
  c1 : b1 = true → ∃ us : List Value, v8 = .agg us.toArray ∧ T.AtL m1 W (fun g => own g = 1 ∧ w.heap.size ≤ g ∧ g < W.heap.size) ts1 us
  c2 : b3 = true → ∃ us : List Value, v10 = .agg us.toArray ∧ T.AtL m2 W (fun g => own g = 3 ∧ w.heap.size ≤ g ∧ g < W.heap.size) ts2 us
  k1 : b4 = true → ∃ g, v5 = .pointer (some ⟨g, 0, none⟩) ∧ own g = 4 ∧ w.heap.size ≤ g ∧ g < W.heap.size ∧ (b6 = false → Blk W g T1 z1) ∧ (b6 = true → ∃ us : List Value, v8 = .agg us.toArray ∧ Blk W g T1 us.toArray)
  k2 : b5 = true → ∃ g, v6 = .pointer (some ⟨g, 0, none⟩) ∧ own g = 5 ∧ w.heap.size ≤ g ∧ g < W.heap.size ∧ (b7 = false → Blk W g T2 z2) ∧ (b7 = true → ∃ us : List Value, v10 = .agg us.toArray ∧ Blk W g T2 us.toArray)
  d1 : b6 = true → b1 = true ∧ b4 = true
  d2 : b7 = true → b3 = true ∧ b5 = true

theorem atl_next {m : Nat → List (List Value)} {N c : Nat} {ts : List T} {us : List Value} {own own' : Nat → Nat} {W W' : World} {row : Option Nat} (h : T.AtL m W (fun g => own g = c ∧ N ≤ g ∧ g < W.heap.size) ts us)
    (hg : W.grownBy W' row) (ho : ∀ g, g < W.heap.size → own' g = own g) (hr : ∀ r, row = some r → own r ≠ c) : T.AtL m W' (fun g => own' g = c ∧ N ≤ g ∧ g < W'.heap.size) ts us :=
  AtL.keep (fun q hq => World.cell?_of_block (hg.block q.block hq.2.2 (fun e => hr _ e.symm hq.1))) (fun g h => ⟨(ho g h.2.2).trans h.1, h.2.1, Nat.lt_of_lt_of_le h.2.2 hg.size⟩) h
theorem blk_next {g c : Nat} {t : TypeId} {cs : Array Value} {own : Nat → Nat} {W W' : World} {row : Option Nat} (h : Blk W g t cs) (hc : own g = c) (hg : W.grownBy W' row) (hr : ∀ r, row = some r → own r ≠ c) : Blk W' g t cs :=
  h.grown hg (fun e => hr _ e.symm hc)
/-- A step that writes no variable. -/
theorem Inv.next {b0 b1 b2 b3 b4 b5 b6 b7 : Bool} {own own' : Nat → Nat} {v5 v6 v7 v8 v9 v10 : Value} {W W' : World} (h : Inv w T1 T2 x1 x2 z1 z2 m1 m2 ts1 ts2 b0 b1 b2 b3 b4 b5 b6 b7 own v5 v6 v7 v8 v9 v10 W)
    (hb : Below W.heap.size W W') (ho : ∀ g, g < W.heap.size → own' g = own g) : Inv w T1 T2 x1 x2 z1 z2 m1 m2 ts1 ts2 b0 b1 b2 b3 b4 b5 b6 b7 own' v5 v6 v7 v8 v9 v10 W' := by
  have hg := only_of_below hb none
  have hz := hb.size
  refine ⟨h.below.trans (hb.mono h.below.size), h.l1, h.l2, fun e => ?_, fun e => ?_, fun e => ?_, fun e => ?_, h.d1, h.d2⟩
  · obtain ⟨us, h1, h2⟩ := h.c1 e
    exact ⟨us, h1, atl_next h2 hg ho (by simp)⟩
  · obtain ⟨us, h1, h2⟩ := h.c2 e
    exact ⟨us, h1, atl_next h2 hg ho (by simp)⟩
  · obtain ⟨g, h1, h2, h3, h4, h5, h6⟩ := h.k1 e
    refine ⟨g, h1, (ho g h4).trans h2, h3, by omega, fun e => blk_next (h5 e) h2 hg (by simp), fun e => ?_⟩
    obtain ⟨us, h7, h8⟩ := h6 e
    exact ⟨us, h7, blk_next h8 h2 hg (by simp)⟩
  · obtain ⟨g, h1, h2, h3, h4, h5, h6⟩ := h.k2 e
    refine ⟨g, h1, (ho g h4).trans h2, h3, by omega, fun e => blk_next (h5 e) h2 hg (by simp), fun e => ?_⟩
    obtain ⟨us, h7, h8⟩ := h6 e
    exact ⟨us, h7, blk_next h8 h2 hg (by simp)⟩

end
end Go.Proofs.YtinmiekbhoemjaaDoor.Two
end
section
set_option linter.unusedVariables false
namespace Go.Proofs.YtinmiekbhoemjaaDoor.Qry
open Go.RowKit Words Tree QryP Kit Owned Two

theorem set10_blk {W : World} {g : Nat} {t : TypeId} {c0 c1 c2 c3 c4 c5 c6 c7 c8 c9 : Value} (h : Blk W g t #[c0, c1, c2, c3, c4, c5, c6, c7, c8, c9]) (v0 v1 v2 v3 v4 v5 v6 v7 v8 v9 : Value) : Blk ((((((((((W.setCell ⟨g, 0, none⟩ v0).setCell ⟨g, 1, none⟩ v1).setCell ⟨g, 2, none⟩ v2).setCell ⟨g, 3, none⟩ v3).setCell ⟨g, 4, none⟩ v4).setCell ⟨g, 5, none⟩ v5).setCell ⟨g, 6, none⟩ v6).setCell ⟨g, 7, none⟩ v7).setCell ⟨g, 8, none⟩ v8).setCell ⟨g, 9, none⟩ v9) g t #[v0, v1, v2, v3, v4, v5, v6, v7, v8, v9] := by
  have b0 : Blk (W.setCell ⟨g, 0, none⟩ v0) g t #[v0, c1, c2, c3, c4, c5, c6, c7, c8, c9] := h.set_ 0 v0
  have b1 : Blk ((W.setCell ⟨g, 0, none⟩ v0).setCell ⟨g, 1, none⟩ v1) g t #[v0, v1, c2, c3, c4, c5, c6, c7, c8, c9] := b0.set_ 1 v1
  have b2 : Blk (((W.setCell ⟨g, 0, none⟩ v0).setCell ⟨g, 1, none⟩ v1).setCell ⟨g, 2, none⟩ v2) g t #[v0, v1, v2, c3, c4, c5, c6, c7, c8, c9] := b1.set_ 2 v2
  have b3 : Blk ((((W.setCell ⟨g, 0, none⟩ v0).setCell ⟨g, 1, none⟩ v1).setCell ⟨g, 2, none⟩ v2).setCell ⟨g, 3, none⟩ v3) g t #[v0, v1, v2, v3, c4, c5, c6, c7, c8, c9] := b2.set_ 3 v3
  have b4 : Blk (((((W.setCell ⟨g, 0, none⟩ v0).setCell ⟨g, 1, none⟩ v1).setCell ⟨g, 2, none⟩ v2).setCell ⟨g, 3, none⟩ v3).setCell ⟨g, 4, none⟩ v4) g t #[v0, v1, v2, v3, v4, c5, c6, c7, c8, c9] := b3.set_ 4 v4
  have b5 : Blk ((((((W.setCell ⟨g, 0, none⟩ v0).setCell ⟨g, 1, none⟩ v1).setCell ⟨g, 2, none⟩ v2).setCell ⟨g, 3, none⟩ v3).setCell ⟨g, 4, none⟩ v4).setCell ⟨g, 5, none⟩ v5) g t #[v0, v1, v2, v3, v4, v5, c6, c7, c8, c9] := b4.set_ 5 v5
  have b6 : Blk (((((((W.setCell ⟨g, 0, none⟩ v0).setCell ⟨g, 1, none⟩ v1).setCell ⟨g, 2, none⟩ v2).setCell ⟨g, 3, none⟩ v3).setCell ⟨g, 4, none⟩ v4).setCell ⟨g, 5, none⟩ v5).setCell ⟨g, 6, none⟩ v6) g t #[v0, v1, v2, v3, v4, v5, v6, c7, c8, c9] := b5.set_ 6 v6
  have b7 : Blk ((((((((W.setCell ⟨g, 0, none⟩ v0).setCell ⟨g, 1, none⟩ v1).setCell ⟨g, 2, none⟩ v2).setCell ⟨g, 3, none⟩ v3).setCell ⟨g, 4, none⟩ v4).setCell ⟨g, 5, none⟩ v5).setCell ⟨g, 6, none⟩ v6).setCell ⟨g, 7, none⟩ v7) g t #[v0, v1, v2, v3, v4, v5, v6, v7, c8, c9] := b6.set_ 7 v7
  have b8 : Blk (((((((((W.setCell ⟨g, 0, none⟩ v0).setCell ⟨g, 1, none⟩ v1).setCell ⟨g, 2, none⟩ v2).setCell ⟨g, 3, none⟩ v3).setCell ⟨g, 4, none⟩ v4).setCell ⟨g, 5, none⟩ v5).setCell ⟨g, 6, none⟩ v6).setCell ⟨g, 7, none⟩ v7).setCell ⟨g, 8, none⟩ v8) g t #[v0, v1, v2, v3, v4, v5, v6, v7, v8, c9] := b7.set_ 8 v8
  have b9 : Blk ((((((((((W.setCell ⟨g, 0, none⟩ v0).setCell ⟨g, 1, none⟩ v1).setCell ⟨g, 2, none⟩ v2).setCell ⟨g, 3, none⟩ v3).setCell ⟨g, 4, none⟩ v4).setCell ⟨g, 5, none⟩ v5).setCell ⟨g, 6, none⟩ v6).setCell ⟨g, 7, none⟩ v7).setCell ⟨g, 8, none⟩ v8).setCell ⟨g, 9, none⟩ v9) g t #[v0, v1, v2, v3, v4, v5, v6, v7, v8, v9] := b8.set_ 9 v9
  exact b9
theorem set10_grown (W : World) (g : Nat) (v0 v1 v2 v3 v4 v5 v6 v7 v8 v9 : Value) : W.grownBy ((((((((((W.setCell ⟨g, 0, none⟩ v0).setCell ⟨g, 1, none⟩ v1).setCell ⟨g, 2, none⟩ v2).setCell ⟨g, 3, none⟩ v3).setCell ⟨g, 4, none⟩ v4).setCell ⟨g, 5, none⟩ v5).setCell ⟨g, 6, none⟩ v6).setCell ⟨g, 7, none⟩ v7).setCell ⟨g, 8, none⟩ v8).setCell ⟨g, 9, none⟩ v9) (some g) := by
  have b0 : W.grownBy (W.setCell ⟨g, 0, none⟩ v0) (some g) := only_setCell (World.grownBy.refl W _) (.inl rfl) v0
  have b1 : W.grownBy ((W.setCell ⟨g, 0, none⟩ v0).setCell ⟨g, 1, none⟩ v1) (some g) := only_setCell b0 (.inl rfl) v1
  have b2 : W.grownBy (((W.setCell ⟨g, 0, none⟩ v0).setCell ⟨g, 1, none⟩ v1).setCell ⟨g, 2, none⟩ v2) (some g) := only_setCell b1 (.inl rfl) v2
  have b3 : W.grownBy ((((W.setCell ⟨g, 0, none⟩ v0).setCell ⟨g, 1, none⟩ v1).setCell ⟨g, 2, none⟩ v2).setCell ⟨g, 3, none⟩ v3) (some g) := only_setCell b2 (.inl rfl) v3
  have b4 : W.grownBy (((((W.setCell ⟨g, 0, none⟩ v0).setCell ⟨g, 1, none⟩ v1).setCell ⟨g, 2, none⟩ v2).setCell ⟨g, 3, none⟩ v3).setCell ⟨g, 4, none⟩ v4) (some g) := only_setCell b3 (.inl rfl) v4
  have b5 : W.grownBy ((((((W.setCell ⟨g, 0, none⟩ v0).setCell ⟨g, 1, none⟩ v1).setCell ⟨g, 2, none⟩ v2).setCell ⟨g, 3, none⟩ v3).setCell ⟨g, 4, none⟩ v4).setCell ⟨g, 5, none⟩ v5) (some g) := only_setCell b4 (.inl rfl) v5
  have b6 : W.grownBy (((((((W.setCell ⟨g, 0, none⟩ v0).setCell ⟨g, 1, none⟩ v1).setCell ⟨g, 2, none⟩ v2).setCell ⟨g, 3, none⟩ v3).setCell ⟨g, 4, none⟩ v4).setCell ⟨g, 5, none⟩ v5).setCell ⟨g, 6, none⟩ v6) (some g) := only_setCell b5 (.inl rfl) v6
  have b7 : W.grownBy ((((((((W.setCell ⟨g, 0, none⟩ v0).setCell ⟨g, 1, none⟩ v1).setCell ⟨g, 2, none⟩ v2).setCell ⟨g, 3, none⟩ v3).setCell ⟨g, 4, none⟩ v4).setCell ⟨g, 5, none⟩ v5).setCell ⟨g, 6, none⟩ v6).setCell ⟨g, 7, none⟩ v7) (some g) := only_setCell b6 (.inl rfl) v7
  have b8 : W.grownBy (((((((((W.setCell ⟨g, 0, none⟩ v0).setCell ⟨g, 1, none⟩ v1).setCell ⟨g, 2, none⟩ v2).setCell ⟨g, 3, none⟩ v3).setCell ⟨g, 4, none⟩ v4).setCell ⟨g, 5, none⟩ v5).setCell ⟨g, 6, none⟩ v6).setCell ⟨g, 7, none⟩ v7).setCell ⟨g, 8, none⟩ v8) (some g) := only_setCell b7 (.inl rfl) v8
  have b9 : W.grownBy ((((((((((W.setCell ⟨g, 0, none⟩ v0).setCell ⟨g, 1, none⟩ v1).setCell ⟨g, 2, none⟩ v2).setCell ⟨g, 3, none⟩ v3).setCell ⟨g, 4, none⟩ v4).setCell ⟨g, 5, none⟩ v5).setCell ⟨g, 6, none⟩ v6).setCell ⟨g, 7, none⟩ v7).setCell ⟨g, 8, none⟩ v8).setCell ⟨g, 9, none⟩ v9) (some g) := only_setCell b8 (.inl rfl) v9
  exact b9
end Go.Proofs.YtinmiekbhoemjaaDoor.Qry
end
section
set_option linter.unusedVariables false
namespace Go.Proofs.YtinmiekbhoemjaaDoor.Qry
open QryP SchP
/-- What stands behind a query's word. -/
def bodyW (d : Nat) (n : Int) (r1 : R) : E (QT × R) := match wantS 40 r1 with
  | .error e => .error e
  | .ok r2 => bodyS numT parT (queryS numT parT d) n r2
theorem body_o (qs : R → E (QT × R)) (n : Int) (r : R) (h : 3 ≤ n ∧ n ≤ 7) : bodyS numT parT qs n r = match nameS r with
    | .error e => .error e
    | .ok (f, r1) => match wantS 44 r1 with
      | .error e => .error e
      | .ok r2 => match restF n f r2 with
        | .error e => .error e
        | .ok (q, r3) => match wantS 41 r3 with
          | .error e => .error e
          | .ok r4 => .ok (q, r4) := by
  unfold bodyS
  rw [if_neg (by omega), if_neg (by omega), if_neg (by omega)]
  by_cases h7 : n = 7
  · subst h7
    rw [if_pos rfl]
    unfold restF
    cases nameS r with
    | error e => rfl
    | ok p =>
      obtain ⟨f, r1⟩ := p
      dsimp only [bind, Except.bind]
      cases wantS 44 r1 with
      | error e => rfl
      | ok r2 =>
        dsimp only
        rw [if_pos rfl]
        cases sevS numT parT (r2.length + 1) r2 with
        | error e => rfl
        | ok p =>
          obtain ⟨lo, r3⟩ := p
          dsimp only
          cases wantS 44 r3 with
          | error e => rfl
          | ok r4 =>
            dsimp only
            cases sevS numT parT (r4.length + 1) r4 with
            | error e => rfl
            | ok p =>
              obtain ⟨hi, r5⟩ := p
              dsimp only
              by_cases hb : lo.length ≠ hi.length ∨ 4 < lo.length
              · rw [if_pos hb, if_pos hb]
              · rw [if_neg hb, if_neg hb]
                dsimp only
                rw [want_skip]
                cases wantS 41 r5 with
                | error e => rfl
                | ok r6 => rfl
  · rw [if_neg h7]
    unfold restF
    cases nameS r with
    | error e => rfl
    | ok p =>
      obtain ⟨f, r1⟩ := p
      dsimp only [bind, Except.bind]
      cases wantS 44 r1 with
      | error e => rfl
      | ok r2 =>
        dsimp only
        rw [if_neg h7]
        cases textS r2 with
        | error e => rfl
        | ok p =>
          obtain ⟨t, r3⟩ := p
          dsimp only
          by_cases h6 : n = 6
          · subst h6
            rw [if_pos rfl, if_pos rfl]
            cases wantS 44 r3 with
            | error e => rfl
            | ok r4 =>
              dsimp only
              cases textS r4 with
              | error e => rfl
              | ok p =>
                obtain ⟨u, r5⟩ := p
                dsimp only
                cases wantS 41 r5 with
                | error e => rfl
                | ok r6 => rfl
          · rw [if_neg h6, if_neg h6]
            dsimp only
            cases wantS 41 r3 with
            | error e => rfl
            | ok r6 => rfl
theorem body_9 (qs : R → E (QT × R)) (r : R) : bodyS numT parT qs 9 r = match numS numT parT r with
    | .error e => .error e
    | .ok (b, r1) => if b < 0 ∨ 1048576 < b then .error ((skipS r).length, 180) else match wantS 44 r1 with
      | .error e => .error e
      | .ok r2 => match qs r2 with
        | .error e => .error e
        | .ok (q, r3) => match wantS 41 r3 with
          | .error e => .error e
          | .ok r4 => .ok (.mk 9 0 emp emp emp [] [] b 0 [q], r4) := by
  unfold bodyS
  rw [if_neg (by decide), if_pos rfl]
  cases numS numT parT r with
  | error e => rfl
  | ok p =>
    obtain ⟨b, r1⟩ := p
    dsimp only [bind, Except.bind]
    by_cases hb : b < 0 ∨ 1048576 < b
    · rw [if_pos hb, if_pos hb]
    · rw [if_neg hb, if_neg hb]
      cases wantS 44 r1 with
      | error e => rfl
      | ok r2 =>
        dsimp only
        cases qs r2 with
        | error e => rfl
        | ok p =>
          obtain ⟨q, r3⟩ := p
          dsimp only
          cases wantS 41 r3 with
          | error e => rfl
          | ok r4 => rfl
end Go.Proofs.YtinmiekbhoemjaaDoor.Qry
end
