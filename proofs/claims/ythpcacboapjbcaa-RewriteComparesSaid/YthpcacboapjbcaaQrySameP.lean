/- Small laws for queries compared part by part. -/
import Derived.Test.YthpcacboapjbcaaQryLent
set_option linter.unusedVariables false
namespace Go.Proofs.Ythpcacboapjbcaa.Qry
open Go.RowKit Words Tree QryP Kit Owned

theorem bcell {W w1 : World} (hb : Below W.heap.size W w1) : (∀ b o, b < W.heap.size → w1.cell? ⟨b, o, none⟩ = W.cell? ⟨b, o, none⟩) ∧ (∀ b o, b < W.heap.size → w1.frozen? ⟨b, o, none⟩ = W.frozen? ⟨b, o, none⟩) :=
  ⟨fun b o h => hb.cell (p := ⟨b, o, none⟩) h, fun b o h => hb.frozen (p := ⟨b, o, none⟩) h⟩
theorem bne_int {a b : Int} (h : ¬ a = b) : (a != b) = true ∧ (a == b) = false := ⟨by rw [bne_iff_ne]; exact h, by rw [beq_eq_false_iff_ne]; exact h⟩
theorem bne_str {a b : ByteArray} (h : ¬ a = b) : (a.toList != b.toList) = true ∧ (a.toList == b.toList) = false := by
  have : ¬ a.toList = b.toList := fun e => by
    rw [ByteArray.toList_eq, ByteArray.toList_eq] at e
    exact h (ByteArray.ext (Array.toList_inj.1 e))
  exact ⟨by rw [bne_iff_ne]; exact this, by rw [beq_eq_false_iff_ne]; exact this⟩
theorem below2 {w : World} (o1 o2 : Obj) : Below w.heap.size w ((w.alloc o1).alloc o2) := ((Below.refl _ _).alloc (Nat.le_refl _) _).alloc (by simp) _
theorem blk_a (w : World) (cs ds : Array Value) (t t' : TypeId) : Blk ((w.alloc (.cells cs t)).alloc (.cells ds t')) w.heap.size t cs := (Blk.new w t cs).alloc _
theorem blk_b (w : World) (cs ds : Array Value) (t t' : TypeId) : Blk ((w.alloc (.cells cs t)).alloc (.cells ds t')) (w.heap.size + 1) t' ds := by
  have := Blk.new (w.alloc (.cells cs t)) t' ds
  rwa [World.size_alloc] at this
theorem blk10 {w : World} {g : Nat} {t : TypeId} {v0 v1 v2 v3 v4 v5 v6 v7 v8 v9 : Value} (h : Blk w g t #[v0, v1, v2, v3, v4, v5, v6, v7, v8, v9]) :
    w.cell? ⟨g, 0, none⟩ = some v0 ∧ w.cell? ⟨g, 1, none⟩ = some v1 ∧ w.cell? ⟨g, 2, none⟩ = some v2 ∧ w.cell? ⟨g, 3, none⟩ = some v3 ∧ w.cell? ⟨g, 4, none⟩ = some v4 ∧ w.cell? ⟨g, 5, none⟩ = some v5 ∧ w.cell? ⟨g, 6, none⟩ = some v6 ∧ w.cell? ⟨g, 7, none⟩ = some v7 ∧ w.cell? ⟨g, 8, none⟩ = some v8 ∧ w.cell? ⟨g, 9, none⟩ = some v9 :=
  ⟨h.cell 0, h.cell 1, h.cell 2, h.cell 3, h.cell 4, h.cell 5, h.cell 6, h.cell 7, h.cell 8, h.cell 9⟩
/-- Ten cells, as the walk spells them. -/
theorem ten {w : World} {ad : Addr} {v0 v1 v2 v3 v4 v5 v6 v7 v8 v9 : Value} (h : Cells w ad [v0, v1, v2, v3, v4, v5, v6, v7, v8, v9]) :
    w.cell? ad = some v0 ∧ w.cell? ⟨ad.block, ad.off + 1, none⟩ = some v1 ∧ w.cell? ⟨ad.block, ad.off + 2, none⟩ = some v2 ∧ w.cell? ⟨ad.block, ad.off + 3, none⟩ = some v3 ∧ w.cell? ⟨ad.block, ad.off + 4, none⟩ = some v4 ∧
    w.cell? ⟨ad.block, ad.off + 5, none⟩ = some v5 ∧ w.cell? ⟨ad.block, ad.off + 6, none⟩ = some v6 ∧ w.cell? ⟨ad.block, ad.off + 7, none⟩ = some v7 ∧ w.cell? ⟨ad.block, ad.off + 8, none⟩ = some v8 ∧ w.cell? ⟨ad.block, ad.off + 9, none⟩ = some v9 :=
  ⟨h.zero, h.at_ 1 _ rfl (by omega), h.at_ 2 _ rfl (by omega), h.at_ 3 _ rfl (by omega), h.at_ 4 _ rfl (by omega), h.at_ 5 _ rfl (by omega), h.at_ 6 _ rfl (by omega), h.at_ 7 _ rfl (by omega), h.at_ 8 _ rfl (by omega), h.at_ 9 _ rfl (by omega)⟩
theorem take_all {α : Type} {l m : List α} (h : l.take l.length = m.take l.length) (hl : l.length = m.length) : l = m := by
  rw [List.take_of_length_le (Nat.le_refl _), hl, List.take_of_length_le (Nat.le_refl _)] at h
  exact h
theorem ne_kid {ks js : List QT} {k : Nat} (h1 : k < ks.length) (h2 : k < js.length) (h : ¬ ks[k] = js[k]) : ¬ ks = js := fun e => by subst e; exact h rfl
theorem bool_cases {b : Bool} {p : Prop} (h : b = true ↔ p) : (p ∧ b = true) ∨ (¬ p ∧ b = false) := by cases b <;> simp_all
end Go.Proofs.Ythpcacboapjbcaa.Qry
