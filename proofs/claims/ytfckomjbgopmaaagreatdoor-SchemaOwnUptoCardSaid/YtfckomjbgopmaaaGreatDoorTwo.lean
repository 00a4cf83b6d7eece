/- A region that draws its order and lays two results in new variables: 'x, y := f(a), g(b)' where x and y are structs that lie in memory: two loads, two calls, two allocations, two stores, whatever order the edges allow. -/
import Derived.Test.YtfckomjbgopmaaaGreatDoorPack2
import Derived.Orders
set_option linter.unusedVariables false
namespace Go.Proofs.YtfckomjbgopmaaaGreatDoor.Two
open Go.RowKit Words Tree

/-- The walk over all orders by an invariant of the operations that have come up. -/
theorem wpAny_inv {P : Program} {md : Region.Mode} {ops : Array Oper} {Q : Exit → Act → World → Prop} (I : Array Bool → Act → World → Prop)
    (hs : ∀ l a w, I l a w → ∀ i ∈ Region.ready md ops l, wpOp P ops Q i (I (l.setIfInBounds i true)) a w) (hd : ∀ l a w, I l a w → Region.ready md ops l = [] → Q .normal a w) :
    ∀ (fuel : Nat) (l : Array Bool) (a : Act) (w : World), l.size = ops.size → l.toList.count false ≤ fuel → I l a w → wpAny P md ops Q fuel l a w
  | 0, l, a, w, hz, hc, h => by
    have he : Region.ready md ops l = [] := by
      rw [List.eq_nil_iff_forall_not_mem]
      intro i hi
      obtain ⟨h0, o, ho, _⟩ := mem_ready.1 hi
      have hlt : i < l.size := by have := (Array.getElem?_eq_some_iff.1 ho).1; omega
      have : false ∈ l.toList := by
        rw [Array.getD_eq_getD_getElem?, Array.getElem?_eq_getElem hlt, Option.getD_some] at h0
        rw [← h0]; simp
      have := List.count_pos_iff.2 this
      omega
    exact ⟨he, hd l a w h he⟩
  | fuel + 1, l, a, w, hz, hc, h => by
    refine ⟨fun he => hd l a w h he, fun i hi => wpOp_mono (fun a' w' h' => wpAny_inv I hs hd fuel _ a' w' (by simpa using hz) ?_ h') (hs l a w h i hi)⟩
    obtain ⟨h0, o, ho, _⟩ := mem_ready.1 hi
    have hlt : i < l.size := by have := (Array.getElem?_eq_some_iff.1 ho).1; omega
    rw [Array.getD_eq_getD_getElem?, Array.getElem?_eq_getElem hlt, Option.getD_some] at h0
    rw [Array.toList_setIfInBounds, List.count_set (by simpa using hlt)]
    simp only [Array.getElem_toList, h0, beq_self_eq_true, if_true]
    rw [if_neg (by decide)]
    omega

def put6 (a : Act) (s5 s6 s7 s8 s9 s10 : Nat) (v5 v6 v7 v8 v9 v10 : Value) : Act := (((((a.put (some s7) v7).put (some s8) v8).put (some s9) v9).put (some s10) v10).put (some s5) v5).put (some s6) v6
theorem put_none (a : Act) (v : Value) : a.put none v = a := rfl
theorem put_put (a : Act) (d : Nat) (u v : Value) : (a.put (some d) u).put (some d) v = a.put (some d) v := by simp [Act.put]
theorem put_swap (a : Act) {d e : Nat} (h : d ≠ e) (u v : Value) : (a.put (some d) u).put (some e) v = (a.put (some e) v).put (some d) u := by
  simp only [Act.put]
  rw [Array.setIfInBounds_comm _ _ h]
theorem eval_put_ne (a : Act) {d t : Nat} (h : d ≠ t) (v : Value) : (a.put (some d) v).eval (.tmp t) = a.eval (.tmp t) := by
  simp only [Act.put, Act.eval, Array.getD_eq_getD_getElem?]
  rw [Array.getElem?_setIfInBounds_ne h]
theorem eval_put_self (a : Act) {d : Nat} (h : d < a.tmps.size) (v : Value) : (a.put (some d) v).eval (.tmp d) = v := by
  simp only [Act.put, Act.eval, Array.getD_eq_getD_getElem?]
  rw [Array.getElem?_setIfInBounds_self_of_lt h]; rfl
theorem size_put (a : Act) (d : Nat) (v : Value) : (a.put (some d) v).tmps.size = a.tmps.size := by simp [Act.put]
section
variable {a : Act} {s5 s6 s7 s8 s9 s10 : Nat} {v5 v6 v7 v8 v9 v10 : Value}
/-- The six slots are six. -/
structure Six (a : Act) (s5 s6 s7 s8 s9 s10 : Nat) : Prop where
  n56 : s5 ≠ s6
  n57 : s5 ≠ s7
  n58 : s5 ≠ s8
  n59 : s5 ≠ s9
  n50 : s5 ≠ s10
  n67 : s6 ≠ s7
  n68 : s6 ≠ s8
  n69 : s6 ≠ s9
  n60 : s6 ≠ s10
  n78 : s7 ≠ s8
  n79 : s7 ≠ s9
  n70 : s7 ≠ s10
  n89 : s8 ≠ s9
  n80 : s8 ≠ s10
  n90 : s9 ≠ s10
  lt : s5 < a.tmps.size ∧ s6 < a.tmps.size ∧ s7 < a.tmps.size ∧ s8 < a.tmps.size ∧ s9 < a.tmps.size ∧ s10 < a.tmps.size
theorem put6_6' (u : Value) : (put6 a s5 s6 s7 s8 s9 s10 v5 v6 v7 v8 v9 v10).put (some s6) u = put6 a s5 s6 s7 s8 s9 s10 v5 u v7 v8 v9 v10 := by
  unfold put6; rw [put_put]
variable (h : Six a s5 s6 s7 s8 s9 s10)
include h
theorem put6_5 (u : Value) : (put6 a s5 s6 s7 s8 s9 s10 v5 v6 v7 v8 v9 v10).put (some s5) u = put6 a s5 s6 s7 s8 s9 s10 u v6 v7 v8 v9 v10 := by
  unfold put6; rw [put_swap _ h.n56.symm, put_put]
theorem put6_0 (u : Value) : (put6 a s5 s6 s7 s8 s9 s10 v5 v6 v7 v8 v9 v10).put (some s10) u = put6 a s5 s6 s7 s8 s9 s10 v5 v6 v7 v8 v9 u := by
  unfold put6; rw [put_swap _ h.n60, put_swap _ h.n50, put_put]
theorem put6_9 (u : Value) : (put6 a s5 s6 s7 s8 s9 s10 v5 v6 v7 v8 v9 v10).put (some s9) u = put6 a s5 s6 s7 s8 s9 s10 v5 v6 v7 v8 u v10 := by
  unfold put6; rw [put_swap _ h.n69, put_swap _ h.n59, put_swap _ h.n90.symm, put_put]
theorem put6_8 (u : Value) : (put6 a s5 s6 s7 s8 s9 s10 v5 v6 v7 v8 v9 v10).put (some s8) u = put6 a s5 s6 s7 s8 s9 s10 v5 v6 v7 u v9 v10 := by
  unfold put6; rw [put_swap _ h.n68, put_swap _ h.n58, put_swap _ h.n80.symm, put_swap _ h.n89.symm, put_put]
theorem put6_7 (u : Value) : (put6 a s5 s6 s7 s8 s9 s10 v5 v6 v7 v8 v9 v10).put (some s7) u = put6 a s5 s6 s7 s8 s9 s10 v5 v6 u v8 v9 v10 := by
  unfold put6; rw [put_swap _ h.n67, put_swap _ h.n57, put_swap _ h.n70.symm, put_swap _ h.n79.symm, put_swap _ h.n78.symm, put_put]
theorem eval6_6 : (put6 a s5 s6 s7 s8 s9 s10 v5 v6 v7 v8 v9 v10).eval (.tmp s6) = v6 := by
  unfold put6; exact eval_put_self _ (by simp only [size_put]; exact h.lt.2.1) _
theorem eval6_5 : (put6 a s5 s6 s7 s8 s9 s10 v5 v6 v7 v8 v9 v10).eval (.tmp s5) = v5 := by
  unfold put6; rw [eval_put_ne _ h.n56.symm]; exact eval_put_self _ (by simp only [size_put]; exact h.lt.1) _
theorem eval6_0 : (put6 a s5 s6 s7 s8 s9 s10 v5 v6 v7 v8 v9 v10).eval (.tmp s10) = v10 := by
  unfold put6; rw [eval_put_ne _ h.n60, eval_put_ne _ h.n50]; exact eval_put_self _ (by simp only [size_put]; exact h.lt.2.2.2.2.2) _
theorem eval6_9 : (put6 a s5 s6 s7 s8 s9 s10 v5 v6 v7 v8 v9 v10).eval (.tmp s9) = v9 := by
  unfold put6; rw [eval_put_ne _ h.n69, eval_put_ne _ h.n59, eval_put_ne _ h.n90.symm]; exact eval_put_self _ (by simp only [size_put]; exact h.lt.2.2.2.2.1) _
theorem eval6_8 : (put6 a s5 s6 s7 s8 s9 s10 v5 v6 v7 v8 v9 v10).eval (.tmp s8) = v8 := by
  unfold put6; rw [eval_put_ne _ h.n68, eval_put_ne _ h.n58, eval_put_ne _ h.n80.symm, eval_put_ne _ h.n89.symm]; exact eval_put_self _ (by simp only [size_put]; exact h.lt.2.2.2.1) _
theorem eval6_7 : (put6 a s5 s6 s7 s8 s9 s10 v5 v6 v7 v8 v9 v10).eval (.tmp s7) = v7 := by
  unfold put6; rw [eval_put_ne _ h.n67, eval_put_ne _ h.n57, eval_put_ne _ h.n70.symm, eval_put_ne _ h.n79.symm, eval_put_ne _ h.n78.symm]; exact eval_put_self _ h.lt.2.2.1 _
omit h in
theorem eval6_ne {t : Nat} (ht : s5 ≠ t ∧ s6 ≠ t ∧ s7 ≠ t ∧ s8 ≠ t ∧ s9 ≠ t ∧ s10 ≠ t) : (put6 a s5 s6 s7 s8 s9 s10 v5 v6 v7 v8 v9 v10).eval (.tmp t) = a.eval (.tmp t) := by
  unfold put6; rw [eval_put_ne _ ht.2.1, eval_put_ne _ ht.1, eval_put_ne _ ht.2.2.2.2.2, eval_put_ne _ ht.2.2.2.2.1, eval_put_ne _ ht.2.2.2.1, eval_put_ne _ ht.2.2.1]
end

theorem wpOp_plain {P : Program} {ops : Array Oper} {Q : Exit → Act → World → Prop} {i : Nat} {K : Act → World → Prop} {a : Act} {w : World} {o : Oper} (ho : ops[i]? = some o) (hg : o.guard = none) (h : o.wp P a w K Q) : wpOp P ops Q i K a w := by
  unfold wpOp
  rw [ho]
  simp only [Region.wanted, hg, if_true]
  exact .inl h

section
variable (P : Program) (A1 A2 T1 T2 : TypeId) (f1 f2 : FuncId) (s2 s3 s5 s6 s7 s8 s9 s10 : Nat) (p : String)
/-- The region. -/
def ops8 : Array Oper :=
  #[⟨some s7, .load A1 (.tmp s2), A1, p, #[], none⟩,
    ⟨some s8, .call { callee := .value (.func f1), args := #[.tmp s7], argTypes := #[A1] }, T1, p, #[⟨0, .data⟩], none⟩,
    ⟨some s9, .load A2 (.tmp s3), A2, p, #[], none⟩,
    ⟨some s10, .call { callee := .value (.func f2), args := #[.tmp s9], argTypes := #[A2] }, T2, p, #[⟨2, .data⟩, ⟨1, .chain⟩], none⟩,
    ⟨some s5, .alloc T1, 0, p, #[], none⟩,
    ⟨some s6, .alloc T2, 0, p, #[], none⟩,
    ⟨none, .store T1 (.tmp s5) (.tmp s8), 0, p, #[⟨4, .data⟩, ⟨1, .data⟩, ⟨3, .chain⟩, ⟨0, .phase⟩, ⟨1, .phase⟩, ⟨2, .textOnly .lateStores⟩, ⟨3, .textOnly .lateStoresUnsure⟩, ⟨4, .phase⟩, ⟨5, .phase⟩], none⟩,
    ⟨none, .store T2 (.tmp s6) (.tmp s10), 0, p, #[⟨5, .data⟩, ⟨3, .data⟩, ⟨6, .chain⟩, ⟨0, .phase⟩, ⟨1, .phase⟩, ⟨2, .phase⟩, ⟨3, .phase⟩, ⟨4, .phase⟩, ⟨5, .phase⟩, ⟨6, .phase⟩], none⟩]

/-- What is known of the operations: each in whatever order. -/
structure Does (a : Act) (w : World) (x1 x2 : Value) (z1 z2 : Array Value) (s1 s2' : Nat → List (List Value)) (ts1 ts2 : List T) : Prop where
  load1 : ∀ (ρ : Operand → Value) W (after : Array Edge), ρ (.tmp s2) = a.eval (.tmp s2) → Below w.heap.size w W → (execOp ρ ⟨some s7, .load A1 (.tmp s2), A1, p, after, none⟩).run P W = .ok (.value x1) W
  load2 : ∀ (ρ : Operand → Value) W (after : Array Edge), ρ (.tmp s3) = a.eval (.tmp s3) → Below w.heap.size w W → (execOp ρ ⟨some s9, .load A2 (.tmp s3), A2, p, after, none⟩).run P W = .ok (.value x2) W
  call1 : ∀ (ρ : Operand → Value) W (after : Array Edge), ρ (.tmp s7) = x1 → ρ (.func f1) = .func (.func f1) #[] #[] → (execOp ρ ⟨some s8, .call { callee := .value (.func f1), args := #[.tmp s7], argTypes := #[A1] }, T1, p, after, none⟩).run P W = .ok (.enter f1 #[x1]) W
  call2 : ∀ (ρ : Operand → Value) W (after : Array Edge), ρ (.tmp s9) = x2 → ρ (.func f2) = .func (.func f2) #[] #[] → (execOp ρ ⟨some s10, .call { callee := .value (.func f2), args := #[.tmp s9], argTypes := #[A2] }, T2, p, after, none⟩).run P W = .ok (.enter f2 #[x2]) W
  alloc1 : ∀ (ρ : Operand → Value) W (after : Array Edge), (execOp ρ ⟨some s5, .alloc T1, 0, p, after, none⟩).run P W = .ok (.value (.pointer (some ⟨W.heap.size, 0, none⟩))) (W.alloc (.cells z1 T1))
  alloc2 : ∀ (ρ : Operand → Value) W (after : Array Edge), (execOp ρ ⟨some s6, .alloc T2, 0, p, after, none⟩).run P W = .ok (.value (.pointer (some ⟨W.heap.size, 0, none⟩))) (W.alloc (.cells z2 T2))
  store1 : ∀ (ρ : Operand → Value) W (after : Array Edge) (g : Nat) (us : List Value) (S : Nat → Prop), ρ (.tmp s5) = .pointer (some ⟨g, 0, none⟩) → ρ (.tmp s8) = .agg us.toArray → T.AtL s1 W S ts1 us → Blk W g T1 z1 →
    ∃ W', (execOp ρ ⟨none, .store T1 (.tmp s5) (.tmp s8), 0, p, after, none⟩).run P W = .ok .skip W' ∧ Blk W' g T1 us.toArray ∧ W.grownBy W' (some g) ∧ W'.heap.size = W.heap.size
  store2 : ∀ (ρ : Operand → Value) W (after : Array Edge) (g : Nat) (us : List Value) (S : Nat → Prop), ρ (.tmp s6) = .pointer (some ⟨g, 0, none⟩) → ρ (.tmp s10) = .agg us.toArray → T.AtL s2' W S ts2 us → Blk W g T2 z2 →
    ∃ W', (execOp ρ ⟨none, .store T2 (.tmp s6) (.tmp s10), 0, p, after, none⟩).run P W = .ok .skip W' ∧ Blk W' g T2 us.toArray ∧ W.grownBy W' (some g) ∧ W'.heap.size = W.heap.size
  does1 : ∀ W, Below w.heap.size w W → Calls P f1 #[x1] W fun e W' => ∃ us, e = .returned (.agg us.toArray) ∧ T.AtL s1 W' (fun g => W.heap.size ≤ g ∧ g < W'.heap.size) ts1 us ∧ Below W.heap.size W W'
  does2 : ∀ W, Below w.heap.size w W → Calls P f2 #[x2] W fun e W' => ∃ us, e = .returned (.agg us.toArray) ∧ T.AtL s2' W' (fun g => W.heap.size ≤ g ∧ g < W'.heap.size) ts2 us ∧ Below W.heap.size W W'
variable {P A1 A2 T1 T2 f1 f2 s2 s3 s5 s6 s7 s8 s9 s10 p}
variable {a : Act} {w : World} {x1 x2 : Value} {z1 z2 : Array Value} {m1 m2 : Nat → List (List Value)} {ts1 ts2 : List T}

/-- What is known of a state: which operations have come up, whose a block is, what the slots hold. -/
structure Inv (w : World) (T1 T2 : TypeId) (x1 x2 : Value) (z1 z2 : Array Value) (m1 m2 : Nat → List (List Value)) (ts1 ts2 : List T)
    (b0 b1 b2 b3 b4 b5 b6 b7 : Bool) (own : Nat → Nat) (v5 v6 v7 v8 v9 v10 : Value) (W : World) : Prop where
  below : Below w.heap.size w W
  l1 : b0 = true → v7 = x1
  l2 : b2 = true → v9 = x2
  c1 : b1 = true → ∃ us : List Value, v8 = .agg us.toArray ∧ T.AtL m1 W (fun g => own g = 1 ∧ w.heap.size ≤ g ∧ g < W.heap.size) ts1 us
  c2 : b3 = true → ∃ us : List Value, v10 = .agg us.toArray ∧ T.AtL m2 W (fun g => own g = 3 ∧ w.heap.size ≤ g ∧ g < W.heap.size) ts2 us
  k1 : b4 = true → ∃ g, v5 = .pointer (some ⟨g, 0, none⟩) ∧ own g = 4 ∧ w.heap.size ≤ g ∧ g < W.heap.size ∧ (b6 = false → Blk W g T1 z1) ∧ (b6 = true → ∃ us : List Value, v8 = .agg us.toArray ∧ Blk W g T1 us.toArray)
  k2 : b5 = true → ∃ g, v6 = .pointer (some ⟨g, 0, none⟩) ∧ own g = 5 ∧ w.heap.size ≤ g ∧ g < W.heap.size ∧ (b7 = false → Blk W g T2 z2) ∧ (b7 = true → ∃ us : List Value, v10 = .agg us.toArray ∧ Blk W g T2 us.toArray)
  d1 : b6 = true → b1 = true ∧ b4 = true
  d2 : b7 = true → b3 = true ∧ b5 = true

theorem atl_next {m : Nat → List (List Value)} {N c : Nat} {ts : List T} {us : List Value} {own own' : Nat → Nat} {W W' : World} {row : Option Nat} (h : T.AtL m W (fun g => own g = c ∧ N ≤ g ∧ g < W.heap.size) ts us)
    (hg : W.grownBy W' row) (ho : ∀ g, g < W.heap.size → own' g = own g) (hr : ∀ r, row = some r → own r ≠ c) : T.AtL m W' (fun g => own' g = c ∧ N ≤ g ∧ g < W'.heap.size) ts us :=
  AtL.keep (fun q hq => World.cell?_of_block (hg.block q.block hq.2.2 (fun e => hr _ e.symm hq.1))) (fun g h => ⟨(ho g h.2.2).trans h.1, h.2.1, Nat.lt_of_lt_of_le h.2.2 hg.size⟩) h
theorem blk_next {g c : Nat} {t : TypeId} {cs : Array Value} {own : Nat → Nat} {W W' : World} {row : Option Nat} (h : Blk W g t cs) (hc : own g = c) (hg : W.grownBy W' row) (hr : ∀ r, row = some r → own r ≠ c) : Blk W' g t cs :=
  h.grown hg (fun e => hr _ e.symm hc)
/-- A step that writes no variable. -/
theorem Inv.next {b0 b1 b2 b3 b4 b5 b6 b7 : Bool} {own own' : Nat → Nat} {v5 v6 v7 v8 v9 v10 : Value} {W W' : World} (h : Inv w T1 T2 x1 x2 z1 z2 m1 m2 ts1 ts2 b0 b1 b2 b3 b4 b5 b6 b7 own v5 v6 v7 v8 v9 v10 W)
    (hb : Below W.heap.size W W') (ho : ∀ g, g < W.heap.size → own' g = own g) : Inv w T1 T2 x1 x2 z1 z2 m1 m2 ts1 ts2 b0 b1 b2 b3 b4 b5 b6 b7 own' v5 v6 v7 v8 v9 v10 W' := by
  have hg := only_of_below hb none
  have hz := hb.size
  refine ⟨h.below.trans (hb.mono h.below.size), h.l1, h.l2, fun e => ?_, fun e => ?_, fun e => ?_, fun e => ?_, h.d1, h.d2⟩
  · obtain ⟨us, h1, h2⟩ := h.c1 e
    exact ⟨us, h1, atl_next h2 hg ho (by simp)⟩
  · obtain ⟨us, h1, h2⟩ := h.c2 e
    exact ⟨us, h1, atl_next h2 hg ho (by simp)⟩
  · obtain ⟨g, h1, h2, h3, h4, h5, h6⟩ := h.k1 e
    refine ⟨g, h1, (ho g h4).trans h2, h3, by omega, fun e => blk_next (h5 e) h2 hg (by simp), fun e => ?_⟩
    obtain ⟨us, h7, h8⟩ := h6 e
    exact ⟨us, h7, blk_next h8 h2 hg (by simp)⟩
  · obtain ⟨g, h1, h2, h3, h4, h5, h6⟩ := h.k2 e
    refine ⟨g, h1, (ho g h4).trans h2, h3, by omega, fun e => blk_next (h5 e) h2 hg (by simp), fun e => ?_⟩
    obtain ⟨us, h7, h8⟩ := h6 e
    exact ⟨us, h7, blk_next h8 h2 hg (by simp)⟩

set_option maxHeartbeats 1000000 in
theorem two_lent {id : Nat} {Q : Exit → Act → World → Prop} (hm : P.follows .mixedOrders = true) (h6 : Six a s5 s6 s7 s8 s9 s10) (ne2 : s5 ≠ s2 ∧ s6 ≠ s2 ∧ s7 ≠ s2 ∧ s8 ≠ s2 ∧ s9 ≠ s2 ∧ s10 ≠ s2) (ne3 : s5 ≠ s3 ∧ s6 ≠ s3 ∧ s7 ≠ s3 ∧ s8 ≠ s3 ∧ s9 ≠ s3 ∧ s10 ≠ s3)
    (hd : Does P A1 A2 T1 T2 f1 f2 s2 s3 s5 s6 s7 s8 s9 s10 p a w x1 x2 z1 z2 m1 m2 ts1 ts2)
    (hQ : ∀ (g5 g6 : Nat) (us1 us2 : List Value) (W : World), Below w.heap.size w W → w.heap.size ≤ g5 → w.heap.size ≤ g6 → g5 ≠ g6 → g5 < W.heap.size → g6 < W.heap.size → Blk W g5 T1 us1.toArray → Blk W g6 T2 us2.toArray →
      T.AtL m1 W (fun g => g ≠ g5 ∧ g ≠ g6 ∧ w.heap.size ≤ g ∧ g < W.heap.size) ts1 us1 → T.AtL m2 W (fun g => g ≠ g5 ∧ g ≠ g6 ∧ w.heap.size ≤ g ∧ g < W.heap.size) ts2 us2 →
      Q .normal (put6 a s5 s6 s7 s8 s9 s10 (.pointer (some ⟨g5, 0, none⟩)) (.pointer (some ⟨g6, 0, none⟩)) x1 (.agg us1.toArray) x2 (.agg us2.toArray)) W) :
    (Code.region id (ops8 A1 A2 T1 T2 f1 f2 s2 s3 s5 s6 s7 s8 s9 s10 p) true).wp P Q a w := by
  refine wp_region_any hm (wpAny_inv (fun l a' W => ∃ b0 b1 b2 b3 b4 b5 b6 b7 own v5 v6 v7 v8 v9 v10, l = #[b0, b1, b2, b3, b4, b5, b6, b7] ∧ a' = put6 a s5 s6 s7 s8 s9 s10 v5 v6 v7 v8 v9 v10 ∧
    Inv w T1 T2 x1 x2 z1 z2 m1 m2 ts1 ts2 b0 b1 b2 b3 b4 b5 b6 b7 own v5 v6 v7 v8 v9 v10 W) ?_ ?_ _ _ _ _ rfl ?_ ?_)
  · rintro l a' W ⟨b0, b1, b2, b3, b4, b5, b6, b7, own, v5, v6, v7, v8, v9, v10, rfl, rfl, H⟩ i hi
    obtain ⟨hn, o, ho, he⟩ := mem_ready.1 hi
    have hlt : i < 8 := (Array.getElem?_eq_some_iff.1 ho).1
    have hB := H.below
    have hcases : i = 0 ∨ i = 1 ∨ i = 2 ∨ i = 3 ∨ i = 4 ∨ i = 5 ∨ i = 6 ∨ i = 7 := by omega
    rcases hcases with rfl | rfl | rfl | rfl | rfl | rfl | rfl | rfl
    · refine wpOp_plain (o := ⟨some s7, .load A1 (.tmp s2), A1, p, #[], none⟩) rfl rfl ?_
      unfold Oper.wp
      rw [hd.load1 _ W _ (eval6_ne ne2) hB, Oper.upon_value]
      exact ⟨true, b1, b2, b3, b4, b5, b6, b7, own, v5, v6, x1, v8, v9, v10, rfl, put6_7 h6 _, { H with l1 := fun _ => rfl }⟩
    · obtain rfl := Option.some.inj (show some (⟨some s8, .call { callee := .value (.func f1), args := #[.tmp s7], argTypes := #[A1] }, T1, p, #[⟨0, .data⟩], none⟩ : Oper) = some o from ho)
      have hb0 : b0 = true := he ⟨0, .data⟩ (by simp) rfl
      have hb1 : b1 = false := hn
      refine wpOp_plain (o := ⟨some s8, .call { callee := .value (.func f1), args := #[.tmp s7], argTypes := #[A1] }, T1, p, #[⟨0, .data⟩], none⟩) rfl rfl ?_
      unfold Oper.wp
      rw [hd.call1 _ W _ (by rw [eval6_7 h6]; exact H.l1 hb0) rfl, Oper.upon_enter]
      refine (hd.does1 W hB).mono ?_
      rintro e W' ⟨us, rfl, ha, hb⟩
      have H' := H.next (own' := (fun g => if g < W.heap.size then own g else 1)) hb (fun g hg => if_pos hg)
      refine ⟨b0, true, b2, b3, b4, b5, b6, b7, _, v5, v6, v7, .agg us.toArray, v9, v10, rfl, put6_8 h6 _, { H' with
        c1 := fun _ => ⟨us, rfl, AtL.keep (fun _ _ => rfl) (fun g hg => ⟨if_neg (by have := hg.1; omega), by have := hg.1; have := hB.size; omega, hg.2⟩) ha⟩
        k1 := fun e => ?_
        d1 := fun e => ⟨rfl, (H.d1 e).2⟩ }⟩
      obtain ⟨g, q1, q2, q3, q4, q5, q6⟩ := H'.k1 e
      exact ⟨g, q1, q2, q3, q4, q5, fun e6 => by have := (H.d1 e6).1; rw [hb1] at this; cases this⟩
    · refine wpOp_plain (o := ⟨some s9, .load A2 (.tmp s3), A2, p, #[], none⟩) rfl rfl ?_
      unfold Oper.wp
      rw [hd.load2 _ W _ (eval6_ne ne3) hB, Oper.upon_value]
      exact ⟨b0, b1, true, b3, b4, b5, b6, b7, own, v5, v6, v7, v8, x2, v10, rfl, put6_9 h6 _, { H with l2 := fun _ => rfl }⟩
    · obtain rfl := Option.some.inj (show some (⟨some s10, .call { callee := .value (.func f2), args := #[.tmp s9], argTypes := #[A2] }, T2, p, #[⟨2, .data⟩, ⟨1, .chain⟩], none⟩ : Oper) = some o from ho)
      have hb0 : b2 = true := he ⟨2, .data⟩ (by simp) rfl
      have hb1 : b3 = false := hn
      refine wpOp_plain (o := ⟨some s10, .call { callee := .value (.func f2), args := #[.tmp s9], argTypes := #[A2] }, T2, p, #[⟨2, .data⟩, ⟨1, .chain⟩], none⟩) rfl rfl ?_
      unfold Oper.wp
      rw [hd.call2 _ W _ (by rw [eval6_9 h6]; exact H.l2 hb0) rfl, Oper.upon_enter]
      refine (hd.does2 W hB).mono ?_
      rintro e W' ⟨us, rfl, ha, hb⟩
      have H' := H.next (own' := (fun g => if g < W.heap.size then own g else 3)) hb (fun g hg => if_pos hg)
      refine ⟨b0, b1, b2, true, b4, b5, b6, b7, _, v5, v6, v7, v8, v9, .agg us.toArray, rfl, put6_0 h6 _, { H' with
        c2 := fun _ => ⟨us, rfl, AtL.keep (fun _ _ => rfl) (fun g hg => ⟨if_neg (by have := hg.1; omega), by have := hg.1; have := hB.size; omega, hg.2⟩) ha⟩
        k2 := fun e => ?_
        d2 := fun e => ⟨rfl, (H.d2 e).2⟩ }⟩
      obtain ⟨g, q1, q2, q3, q4, q5, q6⟩ := H'.k2 e
      exact ⟨g, q1, q2, q3, q4, q5, fun e6 => by have := (H.d2 e6).1; rw [hb1] at this; cases this⟩
    · have hb1 : b4 = false := hn
      refine wpOp_plain (o := ⟨some s5, .alloc T1, 0, p, #[], none⟩) rfl rfl ?_
      unfold Oper.wp
      rw [hd.alloc1 _ W _, Oper.upon_value]
      have H' := H.next (own' := (fun g => if g < W.heap.size then own g else 4)) ((Below.refl _ W).alloc (Nat.le_refl _) (.cells z1 T1)) (fun g hg => if_pos hg)
      exact ⟨b0, b1, b2, b3, true, b5, b6, b7, _, _, v6, v7, v8, v9, v10, rfl, put6_5 h6 _, { H' with
        k1 := fun _ => ⟨W.heap.size, rfl, if_neg (Nat.lt_irrefl _), hB.size, by simp, fun _ => Blk.new _ _ _, fun e6 => by have := (H.d1 e6).2; rw [hb1] at this; cases this⟩
        d1 := fun e => ⟨(H.d1 e).1, rfl⟩ }⟩
    · have hb1 : b5 = false := hn
      refine wpOp_plain (o := ⟨some s6, .alloc T2, 0, p, #[], none⟩) rfl rfl ?_
      unfold Oper.wp
      rw [hd.alloc2 _ W _, Oper.upon_value]
      have H' := H.next (own' := (fun g => if g < W.heap.size then own g else 5)) ((Below.refl _ W).alloc (Nat.le_refl _) (.cells z2 T2)) (fun g hg => if_pos hg)
      exact ⟨b0, b1, b2, b3, b4, true, b6, b7, _, v5, _, v7, v8, v9, v10, rfl, put6_6' _, { H' with
        k2 := fun _ => ⟨W.heap.size, rfl, if_neg (Nat.lt_irrefl _), hB.size, by simp, fun _ => Blk.new _ _ _, fun e6 => by have := (H.d2 e6).2; rw [hb1] at this; cases this⟩
        d2 := fun e => ⟨(H.d2 e).1, rfl⟩ }⟩
    · obtain rfl := Option.some.inj (show some (⟨none, .store T1 (.tmp s5) (.tmp s8), 0, p, #[⟨4, .data⟩, ⟨1, .data⟩, ⟨3, .chain⟩, ⟨0, .phase⟩, ⟨1, .phase⟩, ⟨2, .textOnly .lateStores⟩, ⟨3, .textOnly .lateStoresUnsure⟩, ⟨4, .phase⟩, ⟨5, .phase⟩], none⟩ : Oper) = some o from ho)
      have hb4 : b4 = true := he ⟨4, .data⟩ (by simp) rfl
      have hb1 : b1 = true := he ⟨1, .data⟩ (by simp) rfl
      have hb6 : b6 = false := hn
      obtain ⟨g, q1, q2, q3, q4, q5, _⟩ := H.k1 hb4
      obtain ⟨us, r1, r2⟩ := H.c1 hb1
      obtain ⟨W', hrun, hblk, hg, hz⟩ := hd.store1 (put6 a s5 s6 s7 s8 s9 s10 v5 v6 v7 v8 v9 v10).eval W #[⟨4, .data⟩, ⟨1, .data⟩, ⟨3, .chain⟩, ⟨0, .phase⟩, ⟨1, .phase⟩, ⟨2, .textOnly .lateStores⟩, ⟨3, .textOnly .lateStoresUnsure⟩, ⟨4, .phase⟩, ⟨5, .phase⟩] g us _ (by rw [eval6_5 h6]; exact q1) (by rw [eval6_8 h6]; exact r1) r2 (q5 hb6)
      have hne : ∀ c, c ≠ 4 → ∀ r, some g = some r → own r ≠ c := fun c hc r e h => by cases e; rw [q2] at h; exact hc h.symm
      have HN : Inv w T1 T2 x1 x2 z1 z2 m1 m2 ts1 ts2 b0 b1 b2 b3 b4 b5 true b7 own v5 v6 v7 v8 v9 v10 W' := by
        refine ⟨hB.grown hg hB.size (fun r e => by cases e; exact q3), H.l1, H.l2, fun e => ?_, fun e => ?_, fun e => ?_, fun e => ?_, fun _ => ⟨hb1, hb4⟩, H.d2⟩
        · obtain ⟨us', h1, h2⟩ := H.c1 e
          exact ⟨us', h1, atl_next h2 hg (fun _ _ => rfl) (hne 1 (by omega))⟩
        · obtain ⟨us', h1, h2⟩ := H.c2 e
          exact ⟨us', h1, atl_next h2 hg (fun _ _ => rfl) (hne 3 (by omega))⟩
        · exact ⟨g, q1, q2, q3, by omega, (fun e => by cases e), fun _ => ⟨us, r1, hblk⟩⟩
        · obtain ⟨g', h1, h2, h3, h4, h5, h6'⟩ := H.k2 e
          refine ⟨g', h1, h2, h3, by omega, fun e => blk_next (h5 e) h2 hg (hne 5 (by omega)), fun e => ?_⟩
          obtain ⟨us', h7, h8⟩ := h6' e
          exact ⟨us', h7, blk_next h8 h2 hg (hne 5 (by omega))⟩
      refine wpOp_plain (o := ⟨none, .store T1 (.tmp s5) (.tmp s8), 0, p, #[⟨4, .data⟩, ⟨1, .data⟩, ⟨3, .chain⟩, ⟨0, .phase⟩, ⟨1, .phase⟩, ⟨2, .textOnly .lateStores⟩, ⟨3, .textOnly .lateStoresUnsure⟩, ⟨4, .phase⟩, ⟨5, .phase⟩], none⟩) rfl rfl ?_
      unfold Oper.wp
      rw [hrun, Oper.upon_skip]
      exact ⟨b0, b1, b2, b3, b4, b5, true, b7, own, v5, v6, v7, v8, v9, v10, rfl, put_none _ _, HN⟩
    · obtain rfl := Option.some.inj (show some (⟨none, .store T2 (.tmp s6) (.tmp s10), 0, p, #[⟨5, .data⟩, ⟨3, .data⟩, ⟨6, .chain⟩, ⟨0, .phase⟩, ⟨1, .phase⟩, ⟨2, .phase⟩, ⟨3, .phase⟩, ⟨4, .phase⟩, ⟨5, .phase⟩, ⟨6, .phase⟩], none⟩ : Oper) = some o from ho)
      have hb4 : b5 = true := he ⟨5, .data⟩ (by simp) rfl
      have hb1 : b3 = true := he ⟨3, .data⟩ (by simp) rfl
      have hb6 : b7 = false := hn
      obtain ⟨g, q1, q2, q3, q4, q5, _⟩ := H.k2 hb4
      obtain ⟨us, r1, r2⟩ := H.c2 hb1
      obtain ⟨W', hrun, hblk, hg, hz⟩ := hd.store2 (put6 a s5 s6 s7 s8 s9 s10 v5 v6 v7 v8 v9 v10).eval W #[⟨5, .data⟩, ⟨3, .data⟩, ⟨6, .chain⟩, ⟨0, .phase⟩, ⟨1, .phase⟩, ⟨2, .phase⟩, ⟨3, .phase⟩, ⟨4, .phase⟩, ⟨5, .phase⟩, ⟨6, .phase⟩] g us _ (by rw [eval6_6 h6]; exact q1) (by rw [eval6_0 h6]; exact r1) r2 (q5 hb6)
      have hne : ∀ c, c ≠ 5 → ∀ r, some g = some r → own r ≠ c := fun c hc r e h => by cases e; rw [q2] at h; exact hc h.symm
      have HN : Inv w T1 T2 x1 x2 z1 z2 m1 m2 ts1 ts2 b0 b1 b2 b3 b4 b5 b6 true own v5 v6 v7 v8 v9 v10 W' := by
        refine ⟨hB.grown hg hB.size (fun r e => by cases e; exact q3), H.l1, H.l2, fun e => ?_, fun e => ?_, fun e => ?_, fun e => ?_, H.d1, fun _ => ⟨hb1, hb4⟩⟩
        · obtain ⟨us', h1, h2⟩ := H.c1 e
          exact ⟨us', h1, atl_next h2 hg (fun _ _ => rfl) (hne 1 (by omega))⟩
        · obtain ⟨us', h1, h2⟩ := H.c2 e
          exact ⟨us', h1, atl_next h2 hg (fun _ _ => rfl) (hne 3 (by omega))⟩
        · obtain ⟨g', h1, h2, h3, h4, h5, h6'⟩ := H.k1 e
          refine ⟨g', h1, h2, h3, by omega, fun e => blk_next (h5 e) h2 hg (hne 4 (by omega)), fun e => ?_⟩
          obtain ⟨us', h7, h8⟩ := h6' e
          exact ⟨us', h7, blk_next h8 h2 hg (hne 4 (by omega))⟩
        · exact ⟨g, q1, q2, q3, by omega, (fun e => by cases e), fun _ => ⟨us, r1, hblk⟩⟩
      refine wpOp_plain (o := ⟨none, .store T2 (.tmp s6) (.tmp s10), 0, p, #[⟨5, .data⟩, ⟨3, .data⟩, ⟨6, .chain⟩, ⟨0, .phase⟩, ⟨1, .phase⟩, ⟨2, .phase⟩, ⟨3, .phase⟩, ⟨4, .phase⟩, ⟨5, .phase⟩, ⟨6, .phase⟩], none⟩) rfl rfl ?_
      unfold Oper.wp
      rw [hrun, Oper.upon_skip]
      exact ⟨b0, b1, b2, b3, b4, b5, b6, true, own, v5, v6, v7, v8, v9, v10, rfl, put_none _ _, HN⟩
  · rintro l a' W ⟨b0, b1, b2, b3, b4, b5, b6, b7, own, v5, v6, v7, v8, v9, v10, rfl, rfl, H⟩ he
    have hno : ∀ i, i ∉ Region.ready .any (ops8 A1 A2 T1 T2 f1 f2 s2 s3 s5 s6 s7 s8 s9 s10 p) #[b0, b1, b2, b3, b4, b5, b6, b7] := fun i hi => by rw [he] at hi; cases hi
    have e0 : b0 = true := by cases b0; exact absurd (by refine mem_ready.2 ⟨rfl, _, rfl, ?_⟩; intro e h _; simp [ops8] at h) (hno 0); rfl
    have e2 : b2 = true := by cases b2; exact absurd (by refine mem_ready.2 ⟨rfl, _, rfl, ?_⟩; intro e h _; simp [ops8] at h) (hno 2); rfl
    have e4 : b4 = true := by cases b4; exact absurd (by refine mem_ready.2 ⟨rfl, _, rfl, ?_⟩; intro e h _; simp [ops8] at h) (hno 4); rfl
    have e5 : b5 = true := by cases b5; exact absurd (by refine mem_ready.2 ⟨rfl, _, rfl, ?_⟩; intro e h _; simp [ops8] at h) (hno 5); rfl
    subst e0 e2 e4 e5
    have e1 : b1 = true := by cases b1; exact absurd (by refine mem_ready.2 ⟨rfl, _, rfl, ?_⟩; intro e h _; simp [ops8] at h; subst h; rfl) (hno 1); rfl
    subst e1
    have e3 : b3 = true := by cases b3; exact absurd (by refine mem_ready.2 ⟨rfl, _, rfl, ?_⟩; intro e h _; simp [ops8] at h; rcases h with rfl | rfl <;> rfl) (hno 3); rfl
    subst e3
    have e6 : b6 = true := by cases b6; exact absurd (by refine mem_ready.2 ⟨rfl, _, rfl, ?_⟩; intro e h _; simp [ops8] at h; rcases h with rfl | rfl | rfl | rfl | rfl | rfl | rfl | rfl | rfl <;> rfl) (hno 6); rfl
    subst e6
    have e7 : b7 = true := by cases b7; exact absurd (by refine mem_ready.2 ⟨rfl, _, rfl, ?_⟩; intro e h _; simp [ops8] at h; rcases h with rfl | rfl | rfl | rfl | rfl | rfl | rfl | rfl | rfl | rfl <;> rfl) (hno 7); rfl
    subst e7
    obtain ⟨g5, rfl, o5, n5, l5, _, w5⟩ := H.k1 rfl
    obtain ⟨g6, rfl, o6, n6, l6, _, w6⟩ := H.k2 rfl
    obtain ⟨us1, hv8, B5⟩ := w5 rfl
    obtain ⟨us2, hv10, B6⟩ := w6 rfl
    obtain ⟨us1', hv8', A5⟩ := H.c1 rfl
    obtain ⟨us2', hv10', A6⟩ := H.c2 rfl
    have i1 : us1' = us1 := by
      rw [hv8] at hv8'; injection hv8' with h; injection h with h; exact h.symm
    have i2 : us2' = us2 := by
      rw [hv10] at hv10'; injection hv10' with h; injection h with h; exact h.symm
    subst i1 i2
    rw [H.l1 rfl, H.l2 rfl, hv8, hv10]
    exact hQ g5 g6 us1' us2' W H.below n5 n6 (fun e => by rw [e, o6] at o5; cases o5) l5 l6 B5 B6
      (AtL.keep (fun _ _ => rfl) (fun g h => ⟨(fun e => by rw [e, o5] at h; cases h.1), (fun e => by rw [e, o6] at h; cases h.1), h.2⟩) A5)
      (AtL.keep (fun _ _ => rfl) (fun g h => ⟨(fun e => by rw [e, o5] at h; cases h.1), (fun e => by rw [e, o6] at h; cases h.1), h.2⟩) A6)
  · exact Nat.le_of_eq (by simp [ops8])
  · refine ⟨false, false, false, false, false, false, false, false, fun _ => 0, a.eval (.tmp s5), a.eval (.tmp s6), a.eval (.tmp s7), a.eval (.tmp s8), a.eval (.tmp s9), a.eval (.tmp s10), rfl, ?_, ⟨⟨rfl, rfl, rfl, Nat.le_refl _, fun _ _ => rfl⟩, ?_, ?_, ?_, ?_, ?_, ?_, ?_, ?_⟩⟩
    · unfold put6
      have hs : ∀ d, d < a.tmps.size → a.put (some d) (a.eval (.tmp d)) = a := fun d hd => by
        obtain ⟨tm, df⟩ := a
        simp only [Act.put, Act.eval, Array.getD_eq_getD_getElem?] at hd ⊢
        rw [Array.getElem?_eq_getElem hd, Option.getD_some]
        congr 1
        apply Array.ext
        · simp
        · intro i h1 h2
          rw [Array.getElem_setIfInBounds (by simpa using h1)]
          split
          · rename_i h; subst h; rfl
          · rfl
      obtain ⟨h1, h2, h3, h4, h5, h6'⟩ := h6.lt
      rw [hs s7 h3, hs s8 h4, hs s9 h5, hs s10 h6', hs s5 h1, hs s6 h2]
    all_goals (intro h; cases h)
end
end Go.Proofs.YtfckomjbgopmaaaGreatDoor.Two
