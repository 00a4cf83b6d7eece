/- Contracts: a query that is lent, in memory of its own with a mark behind each list; is it as it was? Contracts: a query that was lent is as it was. A region that draws its order and lays two results in new variables: 'x, y := f(a), g(b)' where x and y are structs that lie in memory: two loads, two calls, two allocations, two stores, whatever order the edges allow. -/
import Derived.Test.YtinmiekbhoemjaaDoorPack29
import Derived.Test.YtinmiekbhoemjaaDoorQrySame
import Derived.Test.YtinmiekbhoemjaaDoorTree
import Derived.Orders
section
set_option linter.unusedVariables false
namespace Go.Proofs.YtinmiekbhoemjaaDoor.Qry
open Go.RowKit Words Tree QryP Kit Owned

end Go.Proofs.YtinmiekbhoemjaaDoor.Qry
end
section
set_option linter.unusedVariables false
namespace Go.Proofs.YtinmiekbhoemjaaDoor.Qry
open Go.RowKit Words Tree QryP Kit Owned

end Go.Proofs.YtinmiekbhoemjaaDoor.Qry
end
section
set_option linter.unusedVariables false
namespace Go.Proofs.YtinmiekbhoemjaaDoor.Two
open Go.RowKit Words Tree

section
variable {a : Act} {s5 s6 s7 s8 s9 s10 : Nat} {v5 v6 v7 v8 v9 v10 : Value}
/-- The six slots are six. -/
structure Six (a : Act) (s5 s6 s7 s8 s9 s10 : Nat) : Prop where
  n56 : s5 ≠ s6
  n57 : s5 ≠ s7
  n58 : s5 ≠ s8
  n59 : s5 ≠ s9
  n50 : s5 ≠ s10
  n67 : s6 ≠ s7
  n68 : s6 ≠ s8
  n69 : s6 ≠ s9
  n60 : s6 ≠ s10
  n78 : s7 ≠ s8
  n79 : s7 ≠ s9
  n70 : s7 ≠ s10
  n89 : s8 ≠ s9
  n80 : s8 ≠ s10
  n90 : s9 ≠ s10
  lt : s5 < a.tmps.size ∧ s6 < a.tmps.size ∧ s7 < a.tmps.size ∧ s8 < a.tmps.size ∧ s9 < a.tmps.size ∧ s10 < a.tmps.size
variable (h : Six a s5 s6 s7 s8 s9 s10)
include h
end

section
variable (P : Program) (A1 A2 T1 T2 : TypeId) (f1 f2 : FuncId) (s2 s3 s5 s6 s7 s8 s9 s10 : Nat) (p : String)
/-- What is known of the operations: each in whatever order. -/
structure Does (a : Act) (w : World) (x1 x2 : Value) (z1 z2 : Array Value) (s1 s2' : Nat → List (List Value)) (ts1 ts2 : List T) : Prop where
  load1 : ∀ (ρ : Operand → Value) W (after : Array Edge), ρ (.tmp s2) = a.eval (.tmp s2) → Below w.heap.size w W → (execOp ρ ⟨some s7, .load A1 (.tmp s2), A1, p, after, none⟩).run P W = .ok (.value x1) W
  load2 : ∀ (ρ : Operand → Value) W (after : Array Edge), ρ (.tmp s3) = a.eval (.tmp s3) → Below w.heap.size w W → (execOp ρ ⟨some s9, .load A2 (.tmp s3), A2, p, after, none⟩).run P W = .ok (.value x2) W
  call1 : ∀ (ρ : Operand → Value) W (after : Array Edge), ρ (.tmp s7) = x1 → ρ (.func f1) = .func (.func f1) #[] #[] → (execOp ρ ⟨some s8, .call { callee := .value (.func f1), args := #[.tmp s7], argTypes := #[A1] }, T1, p, after, none⟩).run P W = .ok (.enter f1 #[x1]) W
  call2 : ∀ (ρ : Operand → Value) W (after : Array Edge), ρ (.tmp s9) = x2 → ρ (.func f2) = .func (.func f2) #[] #[] → (execOp ρ ⟨some s10, .call { callee := .value (.func f2), args := #[.tmp s9], argTypes := #[A2] }, T2, p, after, none⟩).run P W = .ok (.enter f2 #[x2]) W
  alloc1 : ∀ (ρ : Operand → Value) W (after : Array Edge), (execOp ρ ⟨some s5, .alloc T1, 0, p, after, none⟩).run P W = .ok (.value (.pointer (some ⟨W.heap.size, 0, none⟩))) (W.alloc (.cells z1 T1))
  alloc2 : ∀ (ρ : Operand → Value) W (after : Array Edge), (execOp ρ ⟨some s6, .alloc T2, 0, p, after, none⟩).run P W = .ok (.value (.pointer (some ⟨W.heap.size, 0, none⟩))) (W.alloc (.cells z2 T2))
  store1 : ∀ (ρ : Operand → Value) W (after : Array Edge) (g : Nat) (us : List Value) (S : Nat → Prop), ρ (.tmp s5) = .pointer (some ⟨g, 0, none⟩) → ρ (.tmp s8) = .agg us.toArray → T.AtL s1 W S ts1 us → Blk W g T1 z1 →
    ∃ W', (execOp ρ ⟨none, .store T1 (.tmp s5) (.tmp s8), 0, p, after, none⟩).run P W = .ok .skip W' ∧ Blk W' g T1 us.toArray ∧ W.grownBy W' (some g) ∧ W'.heap.size = W.heap.size
  store2 : ∀ (ρ : Operand → Value) W (after : Array Edge) (g : Nat) (us : List Value) (S : Nat → Prop), ρ (.tmp s6) = .pointer (some ⟨g, 0, none⟩) → ρ (.tmp s10) = .agg us.toArray → T.AtL s2' W S ts2 us → Blk W g T2 z2 →
    ∃ W', (execOp ρ ⟨none, .store T2 (.tmp s6) (.tmp s10), 0, p, after, none⟩).run P W = .ok .skip W' ∧ Blk W' g T2 us.toArray ∧ W.grownBy W' (some g) ∧ W'.heap.size = W.heap.size
  does1 : ∀ W, Below w.heap.size w W → Calls P f1 #[x1] W fun e W' => ∃ us, e = .returned (.agg us.toArray) ∧ T.AtL s1 W' (fun g => W.heap.size ≤ g ∧ g < W'.heap.size) ts1 us ∧ Below W.heap.size W W'
  does2 : ∀ W, Below w.heap.size w W → Calls P f2 #[x2] W fun e W' => ∃ us, e = .returned (.agg us.toArray) ∧ T.AtL s2' W' (fun g => W.heap.size ≤ g ∧ g < W'.heap.size) ts2 us ∧ Below W.heap.size W W'
variable {P A1 A2 T1 T2 f1 f2 s2 s3 s5 s6 s7 s8 s9 s10 p}
variable {a : Act} {w : World} {x1 x2 : Value} {z1 z2 : Array Value} {m1 m2 : Nat → List (List Value)} {ts1 ts2 : List T}

/-- What is known of a state: which operations have come up, whose a block is, what the slots hold. -/
structure Inv (w : World) (T1 T2 : TypeId) (x1 x2 : Value) (z1 z2 : Array Value) (m1 m2 : Nat → List (List Value)) (ts1 ts2 : List T)
    (b0 b1 b2 b3 b4 b5 b6 b7 : Bool) (own : Nat → Nat) (v5 v6 v7 v8 v9 v10 : Value) (W : World) : Prop where
  below : Below w.heap.size w W
  l1 : b0 = true → v7 = x1
  l2 : b2 = true → v9 = x2
  c1 : b1 = true → ∃ us : List Value, v8 = .agg us.toArray ∧ T.AtL m1 W (fun g => own g = 1 ∧ w.heap.size ≤ g ∧ g < W.heap.size) ts1 us
  c2 : b3 = true → ∃ us : List Value, v10 = .agg us.toArray ∧ T.AtL m2 W (fun g => own g = 3 ∧ w.heap.size ≤ g ∧ g < W.heap.size) ts2 us
  k1 : b4 = true → ∃ g, v5 = .pointer (some ⟨g, 0, none⟩) ∧ own g = 4 ∧ w.heap.size ≤ g ∧ g < W.heap.size ∧ (b6 = false → Blk W g T1 z1) ∧ (b6 = true → ∃ us : List Value, v8 = .agg us.toArray ∧ Blk W g T1 us.toArray)
  k2 : b5 = true → ∃ g, v6 = .pointer (some ⟨g, 0, none⟩) ∧ own g = 5 ∧ w.heap.size ≤ g ∧ g < W.heap.size ∧ (b7 = false → Blk W g T2 z2) ∧ (b7 = true → ∃ us : List Value, v10 = .agg us.toArray ∧ Blk W g T2 us.toArray)
  d1 : b6 = true → b1 = true ∧ b4 = true
  d2 : b7 = true → b3 = true ∧ b5 = true

theorem atl_next {m : Nat → List (List Value)} {N c : Nat} {ts : List T} {us : List Value} {own own' : Nat → Nat} {W W' : World} {row : Option Nat} (h : T.AtL m W (fun g => own g = c ∧ N ≤ g ∧ g < W.heap.size) ts us)
    (hg : W.grownBy W' row) (ho : ∀ g, g < W.heap.size → own' g = own g) (hr : ∀ r, row = some r → own r ≠ c) : T.AtL m W' (fun g => own' g = c ∧ N ≤ g ∧ g < W'.heap.size) ts us :=
  AtL.keep (fun q hq => World.cell?_of_block (hg.block q.block hq.2.2 (fun e => hr _ e.symm hq.1))) (fun g h => ⟨(ho g h.2.2).trans h.1, h.2.1, Nat.lt_of_lt_of_le h.2.2 hg.size⟩) h
theorem blk_next {g c : Nat} {t : TypeId} {cs : Array Value} {own : Nat → Nat} {W W' : World} {row : Option Nat} (h : Blk W g t cs) (hc : own g = c) (hg : W.grownBy W' row) (hr : ∀ r, row = some r → own r ≠ c) : Blk W' g t cs :=
  h.grown hg (fun e => hr _ e.symm hc)
/-- A step that writes no variable. -/
theorem Inv.next {b0 b1 b2 b3 b4 b5 b6 b7 : Bool} {own own' : Nat → Nat} {v5 v6 v7 v8 v9 v10 : Value} {W W' : World} (h : Inv w T1 T2 x1 x2 z1 z2 m1 m2 ts1 ts2 b0 b1 b2 b3 b4 b5 b6 b7 own v5 v6 v7 v8 v9 v10 W)
    (hb : Below W.heap.size W W') (ho : ∀ g, g < W.heap.size → own' g = own g) : Inv w T1 T2 x1 x2 z1 z2 m1 m2 ts1 ts2 b0 b1 b2 b3 b4 b5 b6 b7 own' v5 v6 v7 v8 v9 v10 W' := by
  have hg := only_of_below hb none
  have hz := hb.size
  refine ⟨h.below.trans (hb.mono h.below.size), h.l1, h.l2, fun e => ?_, fun e => ?_, fun e => ?_, fun e => ?_, h.d1, h.d2⟩
  · obtain ⟨us, h1, h2⟩ := h.c1 e
    exact ⟨us, h1, atl_next h2 hg ho (by simp)⟩
  · obtain ⟨us, h1, h2⟩ := h.c2 e
    exact ⟨us, h1, atl_next h2 hg ho (by simp)⟩
  · obtain ⟨g, h1, h2, h3, h4, h5, h6⟩ := h.k1 e
    refine ⟨g, h1, (ho g h4).trans h2, h3, by omega, fun e => blk_next (h5 e) h2 hg (by simp), fun e => ?_⟩
    obtain ⟨us, h7, h8⟩ := h6 e
    exact ⟨us, h7, blk_next h8 h2 hg (by simp)⟩
  · obtain ⟨g, h1, h2, h3, h4, h5, h6⟩ := h.k2 e
    refine ⟨g, h1, (ho g h4).trans h2, h3, by omega, fun e => blk_next (h5 e) h2 hg (by simp), fun e => ?_⟩
    obtain ⟨us, h7, h8⟩ := h6 e
    exact ⟨us, h7, blk_next h8 h2 hg (by simp)⟩

end
end Go.Proofs.YtinmiekbhoemjaaDoor.Two
end
