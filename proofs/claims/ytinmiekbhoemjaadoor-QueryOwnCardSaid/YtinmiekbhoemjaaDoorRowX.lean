/- Rows of the call's own none of whose cells is frozen, whatever mark they bear behind their end: '[]byte(s)' and what is appended to it. Over any program. -/
import Derived.Test.YtinmiekbhoemjaaDoorPack4
import Derived.Lib.FrozenHead2
import Derived.Lib.ConvBytes
set_option linter.unusedVariables false
namespace Go.Proofs.YtinmiekbhoemjaaDoor.Owned
open Go.RowKit Go.Lib Kit Words

/-- No cell of n is frozen. -/
def NF (fz : Nat × Nat) (n : Nat) : Prop := ∀ i, i < n → ¬ (fz.1 ≤ i ∧ i < fz.2)
theorem NF.zero (n : Nat) : NF (0, 0) n := fun i _ h => by have := h.2; simp at this
/-- The slice value v of n elements of 'size' cells each owns the cells xs; nothing of its row is frozen. -/
def OwnX (w : World) (base : Nat) (e : TypeId) (size : Nat) (v : Value) (n : Nat) (xs : List Value) : Prop :=
  xs.length = n * size ∧ ((v = .slice none 0 0 ∧ n = 0) ∨
    ∃ g cap cur fz, v = .slice (some ⟨g, 0, none⟩) n cap ∧ base ≤ g ∧ w.heap[g]? = some (.cells cur e fz) ∧ NF fz cur.size ∧ n ≤ cap ∧ cap ≤ maxLen ∧ cur.size = cap * size ∧ cur.toList.take (n * size) = xs)
section
variable {w w' : World} {base : Nat} {e : TypeId} {size : Nat} {v : Value} {n : Nat} {xs : List Value}
theorem OwnX.of (h : w.ownsRow base e size v n xs) : OwnX w base e size v n xs := ⟨h.1, h.2.elim .inl fun ⟨g, cap, cur, hv, hb, hg, rest⟩ => .inr ⟨g, cap, cur, (0, 0), hv, hb, hg, NF.zero _, rest⟩⟩
theorem OwnX.lt (h : OwnX w base e size v n xs) : ∀ k, v.ownBlock = some k → base ≤ k ∧ k < w.heap.size := by
  intro k hk
  rcases h.2 with ⟨rfl, _⟩ | ⟨g, cap, cur, fz, rfl, hb, hg, _⟩
  · simp [Value.ownBlock] at hk
  · simp [Value.ownBlock] at hk
    subst hk
    exact ⟨hb, (Array.getElem?_eq_some_iff.1 hg).1⟩
theorem OwnX.keep (h : OwnX w base e size v n xs) (hk : ∀ g, v.ownBlock = some g → w'.heap[g]? = w.heap[g]?) : OwnX w' base e size v n xs :=
  ⟨h.1, h.2.elim .inl fun ⟨g, cap, cur, fz, hv, h1, h2, h3⟩ => .inr ⟨g, cap, cur, fz, hv, h1, (hk g (by rw [hv]; rfl)).trans h2, h3⟩⟩
theorem OwnX.below {B : Nat} (h : OwnX w base e size v n xs) (hb : Below B w w') (hB : w.heap.size ≤ B) : OwnX w' base e size v n xs := h.keep fun g hg => hb.block g (by have := (h.lt g hg).2; omega)
theorem OwnX.le {base' : Nat} (h : OwnX w base e size v n xs) (hB : base' ≤ base) : OwnX w base' e size v n xs :=
  ⟨h.1, h.2.elim .inl fun ⟨g, cap, cur, fz, hv, h1, h2⟩ => .inr ⟨g, cap, cur, fz, hv, Nat.le_trans hB h1, h2⟩⟩
theorem OwnX.cells (h : OwnX w base e size v n xs) {g : Nat} (hg : v.ownBlock = some g) : ∀ j u, xs[j]? = some u → w.cell? ((⟨g, 0, none⟩ : Addr).add j) = some u := by
  intro j u hu
  rcases h.2 with ⟨rfl, _⟩ | ⟨g', cap, cur, fz, rfl, _, hgg, _, _, _, _, htake⟩
  · simp [Value.ownBlock] at hg
  · simp [Value.ownBlock] at hg
    subst hg
    have hadd : (⟨g', 0, none⟩ : Addr).add j = ⟨g', j, none⟩ := by unfold Addr.add; split <;> simp_all
    rw [hadd, cell_of_row w g' j cur e fz hgg]
    rw [← htake, List.getElem?_take] at hu
    split at hu
    · simpa using hu
    · cases hu
theorem OwnX.slice (h : OwnX w base e size v n xs) : ∃ ao cap, v = .slice ao n cap := by
  rcases h.2 with ⟨rfl, h0⟩ | ⟨g, cap, cur, fz, rfl, _⟩
  · exact ⟨none, 0, by rw [h0]⟩
  · exact ⟨_, _, rfl⟩
/-- What it reads. -/
theorem OwnX.reads {A : Option Addr} {c : Nat} (h : OwnX w base e size (.slice A n c) n xs) : Reads w w.heap.size size A n xs := by
  refine ⟨h.1, fun hn => ?_⟩
  rcases h.2 with ⟨hv, h0⟩ | ⟨g, cap, cur, fz, hv, _, hgg, _⟩
  · omega
  · injection hv with hA
    subst hA
    exact ⟨_, rfl, (Array.getElem?_eq_some_iff.1 hgg).1, h.cells (g := g) rfl⟩
end
section
variable {P : Program} (w : World)
end
end Go.Proofs.YtinmiekbhoemjaaDoor.Owned
