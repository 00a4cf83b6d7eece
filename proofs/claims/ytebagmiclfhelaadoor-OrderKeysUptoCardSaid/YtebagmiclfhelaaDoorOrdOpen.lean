/- Arguments opened: slices of keys. -/
import Derived.Test.YtebagmiclfhelaaDoorOrdBack
import Derived.Test.YtebagmiclfhelaaDoorLaw
import Derived.Deep.Slices
import Derived.Deep.Fields
import Derived.ChangeSame
set_option linter.unusedVariables false
namespace Go.Proofs.YtebagmiclfhelaaDoor.OrdLib
open Go.RowKit Go.Lib OrdP Kit OrdRef Words Owned Go.ChangeShapes Go.WideShapes Go.Deep
section
variable {H : Type} {enc : TypeId × Value → H} {P : Program} {w : World} {base : Nat} {spare : Nat → Bool} {held : Bool}
theorem open_slice_fields {t e : TypeId} {fs : Array Field} {fuel : Nat} {cs : List Value} {x : DataW H × List MemPlace} (ht : P.underlying t = some (.slice e)) (he : P.underlying e = some (.struct fs))
    (hone : oneCellFields P fs = true) (hC : P.cellsOf e = fs.size) (h : DataW.trod enc P w base spare held fuel t cs = some x) :
    (cs = [.slice none 0 0] ∧ x = (.nil, [])) ∨
    ∃ (a : Addr) (len cap m : Nat) (D : Nat → DataW H) (Pl : Nat → List MemPlace), cs = [.slice (some a) len cap] ∧ base ≤ a.block ∧ len ≤ cap ∧ cap ≤ maxLen ∧ m = (if spare a.block then cap else len) ∧
      x = (.slice ((List.range len).map D) ((List.range (m - len)).map fun j => D (len + j)), MemPlace.row a (m * fs.size) ++ (List.range m).flatMap Pl) ∧
      ∀ i, i < m → ∃ (ys : List (DataW H × List MemPlace)) (n : Nat), D i = .agg (ys.map (·.1)) ∧ Pl i = ys.flatMap (·.2) ∧ ys.length = fs.size ∧
        ∀ (j : Nat) (f : Field), fs[j]? = some f → ∃ (v : Value) (y : DataW H × List MemPlace), w.cell? (a.add (i * fs.size + j)) = some v ∧ ys[j]? = some y ∧ DataW.trod enc P w base spare held n f.type [v] = some y := by
  rcases open_slice ht h with h0 | ⟨a, len, cap, m, n, D, Pl, hcs, hb, hl, hm, hmm, hx, hi⟩
  · exact .inl h0
  · refine .inr ⟨a, len, cap, m, D, Pl, hcs, hb, hl, hm, hmm, by rw [hC] at hx; exact hx, fun i him => ?_⟩
    obtain ⟨cs', hc, ht'⟩ := hi i him
    rw [hC] at hc
    obtain ⟨ys, n', hn', hy, hlen, hyl, hf⟩ := DataW.trod_struct he ht'
    obtain ⟨_, hcl, hat⟩ := World.cells?_some hc
    simp only [Prod.mk.injEq] at hy
    refine ⟨ys, n', hy.1, hy.2, hyl, fun j f hj => ?_⟩
    obtain ⟨ho, hk⟩ := hone_of hone j f hj
    have hjl : j < fs.size := (Array.getElem?_eq_some_iff.1 hj).1
    have hcell := hat j hjl
    have hv : cs'[j]? = some (cs'[j]'(by omega)) := List.getElem?_eq_getElem (by omega)
    have h1 := hf j f hj
    rw [ho, hk] at h1
    have hone' : (cs'.drop j).take 1 = [cs'[j]'(by omega)] := by
      rw [List.drop_eq_getElem_cons (by omega)]
      rfl
    rw [hone'] at h1
    have hys : ys[j]? = some (ys[j]'(by omega)) := List.getElem?_eq_getElem (by omega)
    refine ⟨_, _, ?_, hys, h1.trans hys⟩
    rw [← Go.Deep.add_add, hcell, hv]
end
theorem exists_list {α : Type} {n : Nat} {Q : Nat → α → Prop} (h : ∀ i, i < n → ∃ a, Q i a) : ∃ l : List α, l.length = n ∧ ∀ i (hi : i < l.length), Q i l[i] := by
  induction n with
  | zero => exact ⟨[], rfl, fun i hi => by simp at hi⟩
  | succ n ih =>
    obtain ⟨l, hl, hq⟩ := ih fun i hi => h i (by omega)
    obtain ⟨a, ha⟩ := h n (by omega)
    refine ⟨l ++ [a], by simp [hl], fun i hi => ?_⟩
    rw [List.length_append, List.length_singleton] at hi
    rcases Nat.lt_or_ge i l.length with h1 | h1
    · rw [List.getElem_append_left h1]; exact hq i h1
    · obtain rfl : i = l.length := by omega
      rw [List.getElem_append_right (Nat.le_refl _)]
      simp only [Nat.sub_self, List.getElem_cons_zero]
      rw [hl]; exact ha
def keyData {H : Type} (k : KeyD) : DataW H := .agg [.lit (.int .i64 k.kind), .lit (.int .i64 k.num), .lit (.string k.text.data.toList)]
set_option maxRecDepth 10000 in
theorem bulk_keys {H : Type} : ∀ ks : List KeyD, Rows.uptoBulkAll (ks.map keyData : List (DataW H)) = 4 * ks.length + sumT ks
  | [] => rfl
  | k :: l => by
    have := bulk_keys (H := H) l
    rw [List.map_cons, Rows.uptoBulkAll, this]
    have e : k.text.data.toList.length = k.text.size := by simp
    show (1 + (1 + (k.text.data.toList.length + 1 + 0)) + 1) + _ = _
    rw [e, List.length_cons, sumT]; omega
set_option maxRecDepth 100000 in
theorem open_keys {H : Type} {enc : TypeId × Value → H} {W : World} {r : Reach} {b0 : Nat} {v : Value} {d : DataW H} {ps : List MemPlace}
    (hv : Value.okWide Tryd.prog W r b0 42 v) (h : DataW.Trod enc Tryd.prog W 0 (fun _ => true) true 42 v d ps) :
    ∃ A cap ks, v = .slice A ks.length cap ∧ Reads W W.heap.size 3 A ks.length (keyCells ks) ∧ (∀ k ∈ ks, inR k) ∧ 4 * ks.length + sumT ks ≤ Rows.uptoBulk d := by
  obtain ⟨a0, len0, cap0, rfl⟩ := okWide_slice Tryd.underlying42 hv
  obtain ⟨fuel, hf⟩ := h
  rcases open_slice_fields Tryd.underlying42 Tryd.underlying35 (by kernel_rfl) (by kernel_rfl) hf with ⟨hcs, hx⟩ | ⟨a, len, cap, m, D, Pl, hcs, _, hl, hm, hmm, hx, hi⟩
  · have e1 : Value.slice a0 len0 cap0 = .slice none 0 0 := by simpa [Value.cells] using hcs
    injection e1 with e1 e2 e3
    subst e1 e2 e3
    simp only [Prod.mk.injEq] at hx
    exact ⟨none, 0, [], rfl, Reads.none_, by simp, by simp [sumT]⟩
  · have e1 : Value.slice a0 len0 cap0 = .slice (some a) len cap := by simpa [Value.cells] using hcs
    injection e1 with e1 e2 e3
    subst e1 e2 e3
    simp only [if_true] at hmm
    simp only [Prod.mk.injEq] at hx
    have hk : ∀ i, i < len0 → ∃ k : KeyD, (inR k ∧ D i = keyData k) ∧ ∀ j u, j < 3 → k.cells[j]? = some u → W.cell? (a.add (i * 3 + j)) = some u := by
      intro i him
      obtain ⟨ys, n, hD, _, hlen, hy⟩ := hi i (by omega)
      obtain ⟨v0, y0, c0, g0, t0⟩ := hy 0 _ rfl
      obtain ⟨v1, y1, c1, g1, t1⟩ := hy 1 _ rfl
      obtain ⟨v2, y2, c2, g2, t2⟩ := hy 2 _ rfl
      obtain ⟨kd, e0, rfl, w0⟩ := DataW.trod_int Tryd.underlying3 t0
      obtain ⟨nm, e1, rfl, w1⟩ := DataW.trod_int Tryd.underlying2 t1
      obtain ⟨tx, e2, rfl, w2⟩ := DataW.trod_string Tryd.underlying9 t2
      simp only [List.cons.injEq, and_true] at e0 e1 e2
      subst e0 e1 e2
      have hys : ys = [(.lit (.int .i64 kd), []), (.lit (.int .i64 nm), []), (.lit (.string tx.data.toList), [])] := by
        match ys, hlen with
        | [z0, z1, z2], _ =>
          simp only [List.getElem?_cons_zero, List.getElem?_cons_succ, Option.some.injEq] at g0 g1 g2
          rw [g0, g1, g2]
      refine ⟨⟨kd, nm, tx⟩, ⟨Law.wf64 w1, by rw [hD, hys]; rfl⟩, fun j u hj hu => ?_⟩
      have h3 : j = 0 ∨ j = 1 ∨ j = 2 := by omega
      rcases h3 with rfl | rfl | rfl
      · rw [← hu]; exact c0
      · rw [← hu]; exact c1
      · rw [← hu]; exact c2
    obtain ⟨ks, hks, hq⟩ := exists_list hk
    subst hks
    refine ⟨some a, cap0, ks, rfl, ⟨keyCells_length ks, fun hn => ⟨a, rfl, ?_, fun j u hu => ?_⟩⟩, fun k hk => ?_, ?_⟩
    · have h0 := (hq 0 (by omega)).2 0 _ (by omega) rfl
      have := World.block_lt_of_cell? W _ h0
      rwa [block_of_add] at this
    · have hj : j < ks.length * 3 := by rw [← keyCells_length]; exact (List.getElem?_eq_some_iff.1 hu).1
      have e := keyCells_get ks (j / 3) _ (List.getElem?_eq_getElem (by omega)) (j % 3) (by omega)
      rw [show j / 3 * 3 + j % 3 = j by omega, hu] at e
      have := (hq (j / 3) (by omega)).2 (j % 3) u (by omega) e.symm
      rwa [show j / 3 * 3 + j % 3 = j by omega] at this
    · obtain ⟨i, hi, rfl⟩ := List.getElem_of_mem hk
      exact (hq i hi).1.1
    · have e : (List.range ks.length).map D = ks.map keyData := by
        apply List.ext_getElem
        · simp
        · intro i h1 h2
          simp only [List.getElem_map, List.getElem_range]
          exact (hq i (by simpa using h2)).1.2
      rw [hx.1, e]
      show _ ≤ Rows.uptoBulkAll (ks.map keyData) + _ + 1
      rw [bulk_keys]; omega
end Go.Proofs.YtebagmiclfhelaaDoor.OrdLib
