/- Arguments opened: rows of tokens. -/
import Derived.Test.YtfbedonphhiolaaDoorOpen
import Derived.Test.YtfbedonphhiolaaDoorAnaTok
set_option linter.unusedVariables false
namespace Go.Proofs.YtfbedonphhiolaaDoor.Ana
open Go.RowKit Go.WideShapes Go.ChangeShapes AnaP Words Tree Kit

def tokT (t : TokD) : List T := [.lit (.string t.text), .lit (.int .i64 t.pos), .lit (.int .i64 t.frm), .lit (.int .i64 t.til)]
theorem tokT_flat : ∀ l : List TokD, l.flatMap tokT = (tokCells l).map fun z => T.lit z
  | [] => rfl
  | t :: l => by
    have e : tokCells (t :: l) = t.cells ++ tokCells l := rfl
    rw [List.flatMap_cons, e, List.map_append, tokT_flat l]; rfl
theorem bulk_toks : ∀ l : List TokD, l.length ≤ T.bulkL (l.flatMap tokT) ∧ ∀ t ∈ l, t.text.size ≤ T.bulkL (l.flatMap tokT)
  | [] => ⟨by simp, by simp⟩
  | t :: l => by
    obtain ⟨h1, h2⟩ := bulk_toks l
    have e : T.bulkL (tokT t) = t.text.size + 4 := by simp only [tokT, T.bulkL, T.bulk]
    rw [List.flatMap_cons, bulkL_append, e]
    refine ⟨by rw [List.length_cons]; omega, fun x hx => ?_⟩
    rcases List.mem_cons.1 hx with rfl | hx
    · omega
    · have := h2 x hx; omega
theorem list_of {α : Type} {f : α → List T} {C : α → Prop} : ∀ {rows : List (List T)}, (∀ r ∈ rows, ∃ a, r = f a ∧ C a) → ∃ l : List α, rows = l.map f ∧ ∀ a ∈ l, C a
  | [], _ => ⟨[], rfl, by simp⟩
  | r :: rows, h => by
    obtain ⟨a, rfl, ha⟩ := h r (by simp)
    obtain ⟨l, rfl, hl⟩ := list_of (rows := rows) fun r hr => h r (List.mem_cons_of_mem _ hr)
    exact ⟨a :: l, rfl, by simpa using ⟨ha, hl⟩⟩
def tTypes : List TypeId := [22, 43, 3, 9]
theorem tFine : fineB Tryd.prog tTypes = true := by kernel_rfl
/-- A token's numbers are within the type. -/
def I64 (n : Int) : Prop := -9223372036854775808 ≤ n ∧ n ≤ 9223372036854775807
def TokOk (t : TokD) : Prop := I64 t.pos ∧ I64 t.frm ∧ I64 t.til
theorem i64_of {n : Int} (h : (Lit.int .i64 n).wf = true) : I64 n := by
  have h2 := h; simp only [Lit.wf, Bool.and_eq_true, decide_eq_true_eq] at h2; exact h2
theorem tok_of {ts : List T} (h : Typed Tryd.prog 43 ts) : ∃ t, ts = tokT t ∧ TokOk t := by
  obtain ⟨parts, rfl, hl, hp⟩ := h.struct_inv Tryd.underlying43
  match parts, hl with
  | [p0, p1, p2, p3], _ =>
    obtain ⟨f, rfl, w0⟩ := (hp 0 _ _ rfl rfl).str_inv Tryd.underlying9
    obtain ⟨a, rfl, w1⟩ := (hp 1 _ _ rfl rfl).int_inv Tryd.underlying3
    obtain ⟨b, rfl, w2⟩ := (hp 2 _ _ rfl rfl).int_inv Tryd.underlying3
    obtain ⟨c, rfl, w3⟩ := (hp 3 _ _ rfl rfl).int_inv Tryd.underlying3
    exact ⟨⟨f, a, b, c⟩, rfl, i64_of w1, i64_of w2, i64_of w3⟩
/-- An argument that is a row of tokens. -/
theorem open_toks {H : Type} {enc : TypeId × Value → H} {w : World} {r : Reach} {b0 : Nat} {v : Value} {d : DataW H} {ps : List MemPlace} (hv : Value.okWide Tryd.prog w r b0 22 v)
    (h : DataW.Trod enc Tryd.prog w 0 (fun _ => true) true 22 v d ps) (hw : ∀ n ∈ d.weights Tryd.prog 22, n ≤ reachBytes) :
    ∃ ao c toks, v = .slice ao (List.length toks) c ∧ Reads w w.heap.size 4 ao toks.length (tokCells toks) ∧ (∀ t ∈ toks, TokOk t) ∧ toks.length * 40 ≤ 140737488351232 ∧ (toks.length ≤ Rows.uptoBulk d ∧ ∀ t ∈ toks, t.text.size ≤ Rows.uptoBulk d) := by
  obtain ⟨rows, h1, h2, _, h4, _, h6⟩ := open_slice_tree tFine (by simp [tTypes]) Tryd.underlying22 hv h hw
  obtain ⟨l, rfl, hl⟩ := list_of (f := tokT) (C := TokOk) (fun r hr => tok_of (h2 r hr))
  rw [show Tryd.prog.cellsOf 43 = 4 from by kernel_rfl, List.length_map, ← List.flatMap_def] at h1
  rw [← List.flatMap_def] at h6
  rw [show Tryd.prog.bytesOf 43 = 40 from by kernel_rfl, List.length_map] at h4
  obtain ⟨A, cap, vs, rfl, _, _, h7, h8⟩ := At.reads h1
  rw [tokT_flat] at h8
  have e := AtL.lits (f := fun z => z) h8
  rw [List.map_id'] at e
  subst e
  obtain ⟨b1, b2⟩ := bulk_toks l
  exact ⟨A, cap, l, rfl, h7, hl, h4, by omega, fun t ht => by have := b2 t ht; omega⟩
end Go.Proofs.YtfbedonphhiolaaDoor.Ana
