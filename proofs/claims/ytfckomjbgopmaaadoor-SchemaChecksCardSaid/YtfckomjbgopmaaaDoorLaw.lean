/- The step from a law's walk to its row, whatever the arguments' types: below the heap's old size nothing has turned, so the arguments read as they read. And arguments opened: slices of integers. -/
import Derived.Test.YtfckomjbgopmaaaDoorWords
import Derived.Test.YtfckomjbgopmaaaDoorKit
import Derived.Test.YtfckomjbgopmaaaDoorRows
import Derived.Carry
import Derived.OpenShut
import Derived.ProofKit
import Derived.SizedLaws
namespace Go.Proofs.YtfckomjbgopmaaaDoor.Law
open Go.RowKit Go.WideShapes Go.ChangeShapes Words

theorem wf32 {n : Int} (h : (Lit.int .i32 n).wf = true) : -2147483648 ≤ n ∧ n ≤ 2147483647 := by
  have h2 := h; simp only [Lit.wf, Bool.and_eq_true, decide_eq_true_eq] at h2; exact h2
theorem wf64 {n : Int} (h : (Lit.int .i64 n).wf = true) : -9223372036854775808 ≤ n ∧ n ≤ 9223372036854775807 := by
  have h2 := h; simp only [Lit.wf, Bool.and_eq_true, decide_eq_true_eq] at h2; exact h2

section
variable {H : Type} {enc : TypeId × Value → H} {P : Program}

theorem trodAll_stays (hl : laidOutB P = true) {W W' : World} {sp : Nat → Bool} : ∀ {ts : List TypeId} {vs : List Value} {ds : List (DataW H)} {ps : List MemPlace}, (∀ t ∈ ts, P.readableRec t = true ∧ t < P.types.size) →
    DataW.TrodAll enc P W 0 (fun _ => true) true ts vs ds ps → (∀ p ∈ ps, W.sameAt W' p) → (∀ p ∈ ps, sp p.block = true) → DataW.TrodAll enc P W' 0 sp true ts vs ds ps
  | [], _, _, _, _, h, _, _ => by obtain ⟨rfl, rfl, rfl⟩ := trodAll_nil h; rfl
  | t :: ts, _, _, _, hr, h, hs, hp => by
    obtain ⟨v, vs, d, ds, p, q, rfl, rfl, rfl, h0, h1⟩ := trodAll_cons h
    exact ⟨p, q, WideElems.Trod_stays hl (hr t (by simp)).1 (hr t (by simp)).2 h0 (fun x hx => hs x (by simp [hx])) (fun x hx => hp x (by simp [hx])),
      trodAll_stays hl (fun t ht => hr t (by simp [ht])) h1 (fun x hx => hs x (by simp [hx])) (fun x hx => hp x (by simp [hx])), rfl⟩

/-- A law that returned true and turned nothing below. -/
theorem law_post {f : Func} {s : ChangeSpec} {tb : TypeId} {W W' : World} {args : Array Value} {ds : List (DataW H)} {before : List MemPlace} (hl : laidOutB P = true) (hr : ∀ t ∈ f.params.toList, P.readableRec t = true ∧ t < P.types.size)
    (hB : P.underlying tb = some .bool) (hres : f.resultTypes = #[tb]) (hvars : s.vars = []) (hs : s.fn H (ds ++ []) = { results := [.lit (.bool true)], args := ds })
    (hW : DataW.Whole enc P f.params.toList s.vars false W args.toList ds [] before) (hb : Below W.heap.size W W') : s.post enc P f false true false false W args (.bool true) W' := by
  have hW' := hW
  obtain ⟨p, q, hA, hV, rfl, _, _⟩ := hW
  rw [hvars] at hV
  obtain ⟨_, rfl⟩ := trodVars_none hV
  refine post_of_below (pa := p) (pv := []) hW' ?_ ?_ ?_ rfl hb (ok_one hres rfl (okWide_bool_mk hB _))
  · intro b sp hd
    rw [hs, hres]
    exact trodAll_cons_mk (shut_bool hB _) trodAll_mk0
  · intro sp hsp
    rw [hs]
    exact trodAll_stays hl hr hA (fun x hx => hb.same (hW'.lt x (by simp [hx]))) (fun x hx => hsp x (by simp [hx]))
  · intro sp _
    rw [hvars, hs]; rfl

/-- A slice of integers that came in: nil or not. -/
theorem open_ints_reads {t e : TypeId} {k : IntKind} {W : World} {r : Reach} {b0 : Nat} {v : Value} {d : DataW H} {ps : List MemPlace} (ht : P.underlying t = some (.slice e)) (he : P.underlying e = some (.int k)) (hc : P.cellsOf e = 1)
    (hv : Value.okWide P W r b0 t v) (h : DataW.Trod enc P W 0 (fun _ => true) true t v d ps) :
    ∃ A n cap zs, v = .slice A n cap ∧ zs.length = n ∧ n ≤ cap ∧ cap ≤ maxLen ∧ Reads W W.heap.size 1 A n (zs.map (Value.int k)) ∧ (∀ z ∈ zs, (Lit.int k z).wf = true) ∧ ((d = .nil ∧ n = 0) ∨ ∃ sp, d = .slice (lits k zs) sp) := by
  obtain ⟨a0, len0, cap0, rfl⟩ := okWide_slice ht hv
  obtain ⟨fuel, hf⟩ := h
  rcases open_ints ht he hc hf with ⟨hcs, hx⟩ | ⟨a, len, cap, zs, hcs, _, hl, hm, hz, hx, hcell, hwz⟩
  · have e1 : Value.slice a0 len0 cap0 = .slice none 0 0 := by simpa [Value.cells] using hcs
    injection e1 with e1 e2 e3
    subst e1 e2 e3
    simp only [Prod.mk.injEq] at hx
    exact ⟨none, 0, 0, [], rfl, rfl, Nat.le_refl _, Nat.zero_le _, Reads.none_, by simp, .inl ⟨hx.1, rfl⟩⟩
  · have e1 : Value.slice a0 len0 cap0 = .slice (some a) len cap := by simpa [Value.cells] using hcs
    injection e1 with e1 e2 e3
    subst e1 e2 e3
    simp only [if_true] at hz
    simp only [Prod.mk.injEq] at hx
    refine ⟨some a, len0, cap0, zs.take len0, rfl, by rw [List.length_take]; omega, hl, hm, ⟨by rw [List.length_map, List.length_take]; omega, fun hn => ⟨a, rfl, ?_, ?_⟩⟩, fun z hz' => hwz z (List.mem_of_mem_take hz'), .inr ⟨_, hx.1⟩⟩
    · have := World.block_lt_of_cell? W _ (hcell 0 (by omega))
      rwa [block_of_add] at this
    · intro j u hu
      have hj : j < len0 := by have := (List.getElem?_eq_some_iff.1 hu).1; simp at this; omega
      rw [hcell j (by omega)]
      rw [List.getElem?_map, List.getElem?_take_of_lt hj, List.getElem?_eq_getElem (by omega)] at hu
      simp only [Option.map_some] at hu
      rw [← hu, List.getD_eq_getElem?_getD, List.getElem?_eq_getElem (by omega)]; rfl
theorem bulk_lits (k : IntKind) : ∀ zs : List Int, Rows.uptoBulkAll (lits k zs : List (DataW H)) = zs.length
  | [] => rfl
  | z :: zs => by
    have := bulk_lits k zs
    show Rows.uptoBulk _ + Rows.uptoBulkAll (lits k zs) = _
    rw [this, List.length_cons, Nat.add_comm]; rfl
end
end Go.Proofs.YtfckomjbgopmaaaDoor.Law
