/- Schemas and documents as trees: their cells, what is known of them, and arguments opened as such. -/
import Derived.Test.YtfckomjbgopmaaaDoorKit
import Derived.Test.YtfckomjbgopmaaaDoorLaw
import Derived.Test.YtfckomjbgopmaaaDoorRowT
import Derived.Test.YtfckomjbgopmaaaDoorSchP
set_option linter.unusedVariables false
namespace Go.Proofs.YtfckomjbgopmaaaDoor.Sch
open Go.RowKit Go.WideShapes Go.ChangeShapes Words Tree SchP

def fcells (f : FT) : List T := [.lit (.string f.name), .lit (.int .i64 f.kind), numsT .i64 f.chain, .lit (.int .i64 f.scale), .lit (.int .i64 f.dims), .lit (.bool f.many), .lit (.bool f.stored)]
def ecells (e : ET) : List T := [.lit (.string e.field), .lit (.string e.text), numsT .i64 e.nums]
def ccells (c : CT) : List T := [.lit (.int .i64 c.field), .lit (.string c.text), numsT .i64 c.nums]
theorem fcells_len (f : FT) : (fcells f).length = 7 := rfl
theorem ecells_len (e : ET) : (ecells e).length = 3 := rfl
theorem ccells_len (c : CT) : (ccells c).length = 3 := rfl
abbrev fieldsT (l : List FT) : T := rowT 7 fcells l
abbrev entriesT (l : List ET) : T := rowT 3 ecells l
abbrev cellsT (l : List CT) : T := rowT 3 ccells l

/-- In the machine's range. -/
def I64 (n : Int) : Prop := -9223372036854775808 ≤ n ∧ n ≤ 9223372036854775807
def NumsOk (l : List Int) : Prop := l.length * 8 ≤ 140737488351232 ∧ ∀ z ∈ l, I64 z
structure FOk (f : FT) : Prop where
  name : f.name.size ≤ 140737488351232
  kind : I64 f.kind
  chain : NumsOk f.chain
  scale : I64 f.scale
  dims : I64 f.dims
structure EOk (e : ET) : Prop where
  field : e.field.size ≤ 140737488351232
  text : e.text.size ≤ 140737488351232
  nums : NumsOk e.nums
structure COk (c : CT) : Prop where
  field : I64 c.field
  text : c.text.size ≤ 140737488351232
  nums : NumsOk c.nums

section
variable {sent : Nat → List (List Value)} {w : World} {S : Nat → Prop}
theorem at_fcells {f : FT} {vs : List Value} (h : T.AtL sent w S (fcells f) vs) : ∃ v, vs = [.string f.name, .int .i64 f.kind, v, .int .i64 f.scale, .int .i64 f.dims, .bool f.many, .bool f.stored] ∧ T.At sent w S (numsT .i64 f.chain) v := by
  rw [fcells] at h
  obtain ⟨v0, r, rfl, h0, h⟩ := AtL.cons_ h
  obtain ⟨v1, r, rfl, h1, h⟩ := AtL.cons_ h
  obtain ⟨v2, r, rfl, h2, h⟩ := AtL.cons_ h
  obtain ⟨v3, r, rfl, h3, h⟩ := AtL.cons_ h
  obtain ⟨v4, r, rfl, h4, h⟩ := AtL.cons_ h
  obtain ⟨v5, r, rfl, h5, h⟩ := AtL.cons_ h
  obtain ⟨v6, r, rfl, h6, h⟩ := AtL.cons_ h
  obtain rfl := AtL.nil_ h
  simp only [T.At] at h0 h1 h3 h4 h5 h6
  subst h0 h1 h3 h4 h5 h6
  exact ⟨v2, rfl, h2⟩
theorem fcells_mk {f : FT} {v : Value} (h : T.At sent w S (numsT .i64 f.chain) v) : T.AtL sent w S (fcells f) [.string f.name, .int .i64 f.kind, v, .int .i64 f.scale, .int .i64 f.dims, .bool f.many, .bool f.stored] := by
  simp only [fcells, T.AtL, T.At, true_and, and_true]
  exact h
theorem at_ecells {e : ET} {vs : List Value} (h : T.AtL sent w S (ecells e) vs) : ∃ v, vs = [.string e.field, .string e.text, v] ∧ T.At sent w S (numsT .i64 e.nums) v := by
  rw [ecells] at h
  obtain ⟨v0, r, rfl, h0, h⟩ := AtL.cons_ h
  obtain ⟨v1, r, rfl, h1, h⟩ := AtL.cons_ h
  obtain ⟨v2, r, rfl, h2, h⟩ := AtL.cons_ h
  obtain rfl := AtL.nil_ h
  simp only [T.At] at h0 h1
  subst h0 h1
  exact ⟨v2, rfl, h2⟩
theorem ecells_mk {e : ET} {v : Value} (h : T.At sent w S (numsT .i64 e.nums) v) : T.AtL sent w S (ecells e) [.string e.field, .string e.text, v] := by
  simp only [ecells, T.AtL, T.At, true_and, and_true]
  exact h
theorem at_ccells {c : CT} {vs : List Value} (h : T.AtL sent w S (ccells c) vs) : ∃ v, vs = [.int .i64 c.field, .string c.text, v] ∧ T.At sent w S (numsT .i64 c.nums) v := by
  rw [ccells] at h
  obtain ⟨v0, r, rfl, h0, h⟩ := AtL.cons_ h
  obtain ⟨v1, r, rfl, h1, h⟩ := AtL.cons_ h
  obtain ⟨v2, r, rfl, h2, h⟩ := AtL.cons_ h
  obtain rfl := AtL.nil_ h
  simp only [T.At] at h0 h1
  subst h0 h1
  exact ⟨v2, rfl, h2⟩
theorem ccells_mk {c : CT} {v : Value} (h : T.At sent w S (numsT .i64 c.nums) v) : T.AtL sent w S (ccells c) [.int .i64 c.field, .string c.text, v] := by
  simp only [ccells, T.AtL, T.At, true_and, and_true]
  exact h
end

def sTypes : List TypeId := [24, 22, 44, 27, 25, 53, 42, 51, 2, 3, 9, 4]
theorem sFine : fineB Tryd.prog sTypes = true := by kernel_rfl
theorem i64_of {n : Int} (h : (Lit.int .i64 n).wf = true) : I64 n := Law.wf64 h
theorem field_of {ts : List T} (h : Typed Tryd.prog 44 ts) : ∃ f, ts = fcells f ∧ FOk f := by
  obtain ⟨parts, rfl, hl, hp⟩ := h.struct_inv Tryd.underlying44
  match parts, hl with
  | [p0, p1, p2, p3, p4, p5, p6], _ =>
    obtain ⟨n, rfl, w0⟩ := (hp 0 _ _ rfl rfl).str_inv Tryd.underlying9
    obtain ⟨kd, rfl, w1⟩ := (hp 1 _ _ rfl rfl).int_inv Tryd.underlying3
    obtain ⟨ch, rfl, b2, w2⟩ := nums_of (hp 2 _ _ rfl rfl) Tryd.underlying42 Tryd.underlying3 (by kernel_rfl)
    obtain ⟨sc, rfl, w3⟩ := (hp 3 _ _ rfl rfl).int_inv Tryd.underlying3
    obtain ⟨di, rfl, w4⟩ := (hp 4 _ _ rfl rfl).int_inv Tryd.underlying3
    obtain ⟨m, rfl⟩ := (hp 5 _ _ rfl rfl).bool_inv Tryd.underlying4
    obtain ⟨s, rfl⟩ := (hp 6 _ _ rfl rfl).bool_inv Tryd.underlying4
    rw [show Tryd.prog.bytesOf 3 = 8 from by kernel_rfl] at b2
    exact ⟨⟨n, kd, ch, sc, di, m, s⟩, rfl, ⟨w0, i64_of w1, ⟨b2, fun z hz => i64_of (w2 z hz)⟩, i64_of w3, i64_of w4⟩⟩
theorem entry_of {ts : List T} (h : Typed Tryd.prog 53 ts) : ∃ e, ts = ecells e ∧ EOk e := by
  obtain ⟨parts, rfl, hl, hp⟩ := h.struct_inv Tryd.underlying53
  match parts, hl with
  | [p0, p1, p2], _ =>
    obtain ⟨f, rfl, w0⟩ := (hp 0 _ _ rfl rfl).str_inv Tryd.underlying9
    obtain ⟨t, rfl, w1⟩ := (hp 1 _ _ rfl rfl).str_inv Tryd.underlying9
    obtain ⟨n, rfl, b2, w2⟩ := nums_of (hp 2 _ _ rfl rfl) Tryd.underlying51 Tryd.underlying2 (by kernel_rfl)
    rw [show Tryd.prog.bytesOf 2 = 8 from by kernel_rfl] at b2
    exact ⟨⟨f, t, n⟩, rfl, ⟨w0, w1, ⟨b2, fun z hz => i64_of (w2 z hz)⟩⟩⟩
theorem schema_of {ts : List T} (h : Typed Tryd.prog 24 ts) : ∃ l, ts = [fieldsT l] ∧ l.length * 72 ≤ 140737488351232 ∧ ∀ f ∈ l, FOk f := by
  obtain ⟨parts, rfl, hl, hp⟩ := h.struct_inv Tryd.underlying24
  match parts, hl with
  | [p0], _ =>
    obtain ⟨l, rfl, hb, _, hC⟩ := row_of (hp 0 _ _ rfl rfl) Tryd.underlying22 (fun r hr => field_of hr)
    rw [show Tryd.prog.bytesOf 44 = 72 from by kernel_rfl] at hb
    rw [show Tryd.prog.cellsOf 44 = 7 from by kernel_rfl]
    exact ⟨l, rfl, hb, hC⟩
theorem doc_of {ts : List T} (h : Typed Tryd.prog 27 ts) : ∃ l, ts = [entriesT l] ∧ l.length * 56 ≤ 140737488351232 ∧ ∀ e ∈ l, EOk e := by
  obtain ⟨parts, rfl, hl, hp⟩ := h.struct_inv Tryd.underlying27
  match parts, hl with
  | [p0], _ =>
    obtain ⟨l, rfl, hb, _, hC⟩ := row_of (hp 0 _ _ rfl rfl) Tryd.underlying25 (fun r hr => entry_of hr)
    rw [show Tryd.prog.bytesOf 53 = 56 from by kernel_rfl] at hb
    rw [show Tryd.prog.cellsOf 53 = 3 from by kernel_rfl]
    exact ⟨l, rfl, hb, hC⟩
section
variable {H : Type} {enc : TypeId × Value → H} {w : World} {r : Reach} {b0 : Nat} {v : Value} {d : DataW H} {ps : List MemPlace}
/-- An argument that is a schema. -/
theorem open_schema (hv : Value.okWide Tryd.prog w r b0 24 v) (h : DataW.Trod enc Tryd.prog w 0 (fun _ => true) true 24 v d ps) (hw : ∀ n ∈ d.weights Tryd.prog 24, n ≤ reachBytes) :
    ∃ l u, v = .agg #[u] ∧ T.At bare w (fun g => g < w.heap.size) (fieldsT l) u ∧ l.length * 72 ≤ 140737488351232 ∧ (∀ f ∈ l, FOk f) ∧ T.bulkL [fieldsT l] ≤ Rows.uptoBulk d := by
  obtain ⟨ts, vs, rfl, h1, h2, h3⟩ := open_struct sFine (by simp [sTypes]) Tryd.underlying24 hv h hw
  obtain ⟨l, rfl, h4, h5⟩ := schema_of h2
  obtain ⟨u, r, rfl, h6, h7⟩ := AtL.cons_ h1
  obtain rfl := AtL.nil_ h7
  exact ⟨l, u, rfl, h6, h4, h5, h3⟩
/-- An argument that is a document. -/
theorem open_doc (hv : Value.okWide Tryd.prog w r b0 27 v) (h : DataW.Trod enc Tryd.prog w 0 (fun _ => true) true 27 v d ps) (hw : ∀ n ∈ d.weights Tryd.prog 27, n ≤ reachBytes) :
    ∃ l u, v = .agg #[u] ∧ T.At bare w (fun g => g < w.heap.size) (entriesT l) u ∧ l.length * 56 ≤ 140737488351232 ∧ (∀ e ∈ l, EOk e) ∧ T.bulkL [entriesT l] ≤ Rows.uptoBulk d := by
  obtain ⟨ts, vs, rfl, h1, h2, h3⟩ := open_struct sFine (by simp [sTypes]) Tryd.underlying27 hv h hw
  obtain ⟨l, rfl, h4, h5⟩ := doc_of h2
  obtain ⟨u, r, rfl, h6, h7⟩ := AtL.cons_ h1
  obtain rfl := AtL.nil_ h7
  exact ⟨l, u, rfl, h6, h4, h5, h3⟩
end
end Go.Proofs.YtfckomjbgopmaaaDoor.Sch
