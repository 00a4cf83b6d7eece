/- Which texts may be names of fields, in plain Lean. Schemas, entries and cells as plain Lean data; which schemas may be, which entries are stored. Schemas and documents as trees: their cells, what is known of them, and arguments opened as such. -/
import Derived.Test.YtfckomjbgopmaaaGreatDoorPack2
import Derived.Test.YtfckomjbgopmaaaGreatDoorPack6
import Derived.Test.YtfckomjbgopmaaaGreatDoorPack4
section
namespace SchP

/-- A byte that may stand at a place of a name. -/
def byteB (i : Nat) (c : UInt8) : Bool := decide (97 ≤ c.toNat ∧ c.toNat ≤ 122) || decide (c.toNat = 95) || (decide (0 < i) && decide (48 ≤ c.toNat ∧ c.toNat ≤ 57))
def bytesB : Nat → List UInt8 → Bool
  | _, [] => true
  | i, c :: l => byteB i c && bytesB (i + 1) l
def nameB (s : ByteArray) : Bool := bytesB 0 s.data.toList && decide (1 ≤ s.size) && decide (s.size ≤ 24)
theorem bytesB_step {l : List UInt8} {k : Nat} (h : k < l.length) : bytesB k (l.drop k) = (byteB k l[k] && bytesB (k + 1) (l.drop (k + 1))) := by
  rw [List.drop_eq_getElem_cons h, bytesB]
end SchP
end
section
namespace SchP
open AnaP

/-- A field; an entry; a cell. -/
structure FT where
  name : ByteArray
  kind : Int
  chain : List Int
  scale : Int
  dims : Int
  many : Bool
  stored : Bool
structure ET where
  field : ByteArray
  text : ByteArray
  nums : List Int
structure CT where
  field : Int
  text : ByteArray
  nums : List Int

/-- What a field may be, whatever the others are. -/
def kindB (f : FT) : Bool := if f.kind = 1 then checkB f.chain else if f.kind = 2 ∨ f.kind = 3 then true else if f.kind = 4 then decide (0 ≤ f.scale ∧ f.scale ≤ 9) else if f.kind = 5 then decide (1 ≤ f.dims ∧ f.dims ≤ 4) else false
def mayB (f : FT) : Bool := nameB f.name && (decide (f.kind = 1) || decide (f.chain.length = 0)) && (decide (f.kind = 4) || decide (f.scale = 0)) && (decide (f.kind = 5) || decide (f.dims = 0)) && kindB f

/-- A name's number. -/
def findF : List FT → ByteArray → Option Nat
  | [], _ => none
  | f :: l, s => if f.name = s then some 0 else (findF l s).map (· + 1)
def findZ (l : List FT) (s : ByteArray) : Int := match findF l s with
  | some i => i
  | none => -1
theorem findF_some : ∀ {l : List FT} {s : ByteArray} {i : Nat}, findF l s = some i → ∃ h : i < l.length, l[i].name = s ∧ ∀ (k : Nat) (hk : k < i), (l[k]'(by omega)).name ≠ s
  | [], s, i, h => by cases h
  | f :: l, s, i, h => by
    unfold findF at h
    split at h
    · rename_i hf
      cases h
      exact ⟨by simp, hf, fun k hk => by omega⟩
    · rename_i hf
      cases hl : findF l s with
      | none => rw [hl] at h; cases h
      | some j =>
        rw [hl] at h
        cases h
        obtain ⟨h1, h2, h3⟩ := findF_some hl
        refine ⟨by simp; omega, by simpa using h2, fun k hk => ?_⟩
        cases k with
        | zero => simpa using hf
        | succ k =>
          have := h3 k (Nat.lt_of_succ_lt_succ hk)
          simpa using this
theorem findF_none : ∀ {l : List FT} {s : ByteArray}, findF l s = none → ∀ f ∈ l, f.name ≠ s
  | [], s, _, f, hf => by cases hf
  | g :: l, s, h, f, hf => by
    unfold findF at h
    split at h
    · cases h
    · rename_i hg
      rw [Option.map_eq_none_iff] at h
      rcases List.mem_cons.1 hf with rfl | hf
      · exact hg
      · exact findF_none h f hf
theorem findF_of {l : List FT} {s : ByteArray} {i : Nat} (h : i < l.length) (hs : l[i].name = s) (hk : ∀ (k : Nat) (hki : k < i), (l[k]'(by omega)).name ≠ s) : findF l s = some i := by
  cases hf : findF l s with
  | none => exact absurd hs (findF_none hf _ (List.getElem_mem h))
  | some j =>
    obtain ⟨h1, h2, h3⟩ := findF_some hf
    rcases Nat.lt_trichotomy i j with h4 | rfl | h4
    · exact absurd hs (h3 i h4)
    · rfl
    · exact absurd h2 (hk j h4)
/-- No field ahead of number i has its name. -/
def firstB (l : List FT) (i : Nat) : Bool := match l[i]? with
  | none => true
  | some f => (l.take i).all fun g => decide (g.name ≠ f.name)
theorem firstB_iff {l : List FT} {i : Nat} (h : i < l.length) : firstB l i = true ↔ ∀ (k : Nat) (hk : k < i), (l[k]'(by omega)).name ≠ l[i].name := by
  unfold firstB
  rw [List.getElem?_eq_getElem h]
  simp only [List.all_eq_true, decide_eq_true_eq]
  constructor
  · intro ha k hk
    exact ha _ (List.mem_take_iff_getElem.2 ⟨k, by omega, rfl⟩)
  · intro ha g hg
    obtain ⟨k, hk, rfl⟩ := List.mem_take_iff_getElem.1 hg
    exact ha k (by omega)
theorem first_find {l : List FT} {i : Nat} (h : i < l.length) : firstB l i = decide (findF l l[i].name = some i) := by
  rw [Bool.eq_iff_iff, firstB_iff h, decide_eq_true_iff]
  exact ⟨fun hk => findF_of h rfl hk, fun hf => by obtain ⟨_, _, h3⟩ := findF_some hf; exact h3⟩

/-- A schema may be. -/
def okAt (l : List FT) (i : Nat) : Bool := match l[i]? with
  | none => true
  | some f => firstB l i && mayB f
theorem okAt_eq {l : List FT} {i : Nat} (h : i < l.length) : okAt l i = (firstB l i && mayB l[i]) := by unfold okAt; rw [List.getElem?_eq_getElem h]
def okTo (l : List FT) (k : Nat) : Bool := (List.range k).all (okAt l)
theorem okTo_zero (l : List FT) : okTo l 0 = true := rfl
theorem okTo_succ (l : List FT) (k : Nat) : okTo l (k + 1) = (okTo l k && okAt l k) := by simp [okTo, List.range_succ]
theorem okTo_no {l : List FT} {k n : Nat} (h : okAt l k = false) (hk : k < n) : okTo l n = false := by
  rw [okTo, List.all_eq_false]
  exact ⟨k, List.mem_range.2 hk, by simp [h]⟩
def checkS (l : List FT) : Bool := decide (1 ≤ l.length) && decide (l.length ≤ 16) && okTo l l.length
def errS (b : Bool) : Int := if b then 0 else 80

/-- The entries that are stored. -/
def keepB (l : List FT) (e : ET) : Bool := match findF l e.field with
  | none => false
  | some i => match l[i]? with
    | none => false
    | some f => f.stored
def storedF (l : List FT) (d : List ET) : List ET := d.filter (keepB l)
end SchP
end
section
set_option linter.unusedVariables false
namespace Go.Proofs.YtfckomjbgopmaaaGreatDoor.Sch
open Go.RowKit Go.WideShapes Go.ChangeShapes Words Tree SchP

def fcells (f : FT) : List T := [.lit (.string f.name), .lit (.int .i64 f.kind), numsT .i64 f.chain, .lit (.int .i64 f.scale), .lit (.int .i64 f.dims), .lit (.bool f.many), .lit (.bool f.stored)]
def ecells (e : ET) : List T := [.lit (.string e.field), .lit (.string e.text), numsT .i64 e.nums]
def ccells (c : CT) : List T := [.lit (.int .i64 c.field), .lit (.string c.text), numsT .i64 c.nums]
theorem fcells_len (f : FT) : (fcells f).length = 7 := rfl
theorem ecells_len (e : ET) : (ecells e).length = 3 := rfl
theorem ccells_len (c : CT) : (ccells c).length = 3 := rfl
abbrev fieldsT (l : List FT) : T := rowT 7 fcells l
abbrev entriesT (l : List ET) : T := rowT 3 ecells l
abbrev cellsT (l : List CT) : T := rowT 3 ccells l

/-- In the machine's range. -/
def I64 (n : Int) : Prop := -9223372036854775808 ≤ n ∧ n ≤ 9223372036854775807
def NumsOk (l : List Int) : Prop := l.length * 8 ≤ 140737488351232 ∧ ∀ z ∈ l, I64 z
structure FOk (f : FT) : Prop where
  name : f.name.size ≤ 140737488351232
  kind : I64 f.kind
  chain : NumsOk f.chain
  scale : I64 f.scale
  dims : I64 f.dims
structure EOk (e : ET) : Prop where
  field : e.field.size ≤ 140737488351232
  text : e.text.size ≤ 140737488351232
  nums : NumsOk e.nums
structure COk (c : CT) : Prop where
  field : I64 c.field
  text : c.text.size ≤ 140737488351232
  nums : NumsOk c.nums

section
variable {sent : Nat → List (List Value)} {w : World} {S : Nat → Prop}
theorem at_fcells {f : FT} {vs : List Value} (h : T.AtL sent w S (fcells f) vs) : ∃ v, vs = [.string f.name, .int .i64 f.kind, v, .int .i64 f.scale, .int .i64 f.dims, .bool f.many, .bool f.stored] ∧ T.At sent w S (numsT .i64 f.chain) v := by
  rw [fcells] at h
  obtain ⟨v0, r, rfl, h0, h⟩ := AtL.cons_ h
  obtain ⟨v1, r, rfl, h1, h⟩ := AtL.cons_ h
  obtain ⟨v2, r, rfl, h2, h⟩ := AtL.cons_ h
  obtain ⟨v3, r, rfl, h3, h⟩ := AtL.cons_ h
  obtain ⟨v4, r, rfl, h4, h⟩ := AtL.cons_ h
  obtain ⟨v5, r, rfl, h5, h⟩ := AtL.cons_ h
  obtain ⟨v6, r, rfl, h6, h⟩ := AtL.cons_ h
  obtain rfl := AtL.nil_ h
  simp only [T.At] at h0 h1 h3 h4 h5 h6
  subst h0 h1 h3 h4 h5 h6
  exact ⟨v2, rfl, h2⟩
theorem fcells_mk {f : FT} {v : Value} (h : T.At sent w S (numsT .i64 f.chain) v) : T.AtL sent w S (fcells f) [.string f.name, .int .i64 f.kind, v, .int .i64 f.scale, .int .i64 f.dims, .bool f.many, .bool f.stored] := by
  simp only [fcells, T.AtL, T.At, true_and, and_true]
  exact h
theorem at_ecells {e : ET} {vs : List Value} (h : T.AtL sent w S (ecells e) vs) : ∃ v, vs = [.string e.field, .string e.text, v] ∧ T.At sent w S (numsT .i64 e.nums) v := by
  rw [ecells] at h
  obtain ⟨v0, r, rfl, h0, h⟩ := AtL.cons_ h
  obtain ⟨v1, r, rfl, h1, h⟩ := AtL.cons_ h
  obtain ⟨v2, r, rfl, h2, h⟩ := AtL.cons_ h
  obtain rfl := AtL.nil_ h
  simp only [T.At] at h0 h1
  subst h0 h1
  exact ⟨v2, rfl, h2⟩
theorem ecells_mk {e : ET} {v : Value} (h : T.At sent w S (numsT .i64 e.nums) v) : T.AtL sent w S (ecells e) [.string e.field, .string e.text, v] := by
  simp only [ecells, T.AtL, T.At, true_and, and_true]
  exact h
theorem at_ccells {c : CT} {vs : List Value} (h : T.AtL sent w S (ccells c) vs) : ∃ v, vs = [.int .i64 c.field, .string c.text, v] ∧ T.At sent w S (numsT .i64 c.nums) v := by
  rw [ccells] at h
  obtain ⟨v0, r, rfl, h0, h⟩ := AtL.cons_ h
  obtain ⟨v1, r, rfl, h1, h⟩ := AtL.cons_ h
  obtain ⟨v2, r, rfl, h2, h⟩ := AtL.cons_ h
  obtain rfl := AtL.nil_ h
  simp only [T.At] at h0 h1
  subst h0 h1
  exact ⟨v2, rfl, h2⟩
theorem ccells_mk {c : CT} {v : Value} (h : T.At sent w S (numsT .i64 c.nums) v) : T.AtL sent w S (ccells c) [.int .i64 c.field, .string c.text, v] := by
  simp only [ccells, T.AtL, T.At, true_and, and_true]
  exact h
end

def sTypes : List TypeId := [24, 22, 54, 30, 28, 68, 52, 55, 2, 3, 9, 4]
theorem sFine : fineB Tryz.prog sTypes = true := by kernel_rfl
theorem i64_of {n : Int} (h : (Lit.int .i64 n).wf = true) : I64 n := Law.wf64 h
theorem field_of {ts : List T} (h : Typed Tryz.prog 54 ts) : ∃ f, ts = fcells f ∧ FOk f := by
  obtain ⟨parts, rfl, hl, hp⟩ := h.struct_inv Tryz.underlying54
  match parts, hl with
  | [p0, p1, p2, p3, p4, p5, p6], _ =>
    obtain ⟨n, rfl, w0⟩ := (hp 0 _ _ rfl rfl).str_inv Tryz.underlying9
    obtain ⟨kd, rfl, w1⟩ := (hp 1 _ _ rfl rfl).int_inv Tryz.underlying3
    obtain ⟨ch, rfl, b2, w2⟩ := nums_of (hp 2 _ _ rfl rfl) Tryz.underlying52 Tryz.underlying3 (by kernel_rfl)
    obtain ⟨sc, rfl, w3⟩ := (hp 3 _ _ rfl rfl).int_inv Tryz.underlying3
    obtain ⟨di, rfl, w4⟩ := (hp 4 _ _ rfl rfl).int_inv Tryz.underlying3
    obtain ⟨m, rfl⟩ := (hp 5 _ _ rfl rfl).bool_inv Tryz.underlying4
    obtain ⟨s, rfl⟩ := (hp 6 _ _ rfl rfl).bool_inv Tryz.underlying4
    rw [show Tryz.prog.bytesOf 3 = 8 from by kernel_rfl] at b2
    exact ⟨⟨n, kd, ch, sc, di, m, s⟩, rfl, ⟨w0, i64_of w1, ⟨b2, fun z hz => i64_of (w2 z hz)⟩, i64_of w3, i64_of w4⟩⟩
theorem entry_of {ts : List T} (h : Typed Tryz.prog 68 ts) : ∃ e, ts = ecells e ∧ EOk e := by
  obtain ⟨parts, rfl, hl, hp⟩ := h.struct_inv Tryz.underlying68
  match parts, hl with
  | [p0, p1, p2], _ =>
    obtain ⟨f, rfl, w0⟩ := (hp 0 _ _ rfl rfl).str_inv Tryz.underlying9
    obtain ⟨t, rfl, w1⟩ := (hp 1 _ _ rfl rfl).str_inv Tryz.underlying9
    obtain ⟨n, rfl, b2, w2⟩ := nums_of (hp 2 _ _ rfl rfl) Tryz.underlying55 Tryz.underlying2 (by kernel_rfl)
    rw [show Tryz.prog.bytesOf 2 = 8 from by kernel_rfl] at b2
    exact ⟨⟨f, t, n⟩, rfl, ⟨w0, w1, ⟨b2, fun z hz => i64_of (w2 z hz)⟩⟩⟩
theorem schema_of {ts : List T} (h : Typed Tryz.prog 24 ts) : ∃ l, ts = [fieldsT l] ∧ l.length * 72 ≤ 140737488351232 ∧ ∀ f ∈ l, FOk f := by
  obtain ⟨parts, rfl, hl, hp⟩ := h.struct_inv Tryz.underlying24
  match parts, hl with
  | [p0], _ =>
    obtain ⟨l, rfl, hb, _, hC⟩ := row_of (hp 0 _ _ rfl rfl) Tryz.underlying22 (fun r hr => field_of hr)
    rw [show Tryz.prog.bytesOf 54 = 72 from by kernel_rfl] at hb
    rw [show Tryz.prog.cellsOf 54 = 7 from by kernel_rfl]
    exact ⟨l, rfl, hb, hC⟩
theorem doc_of {ts : List T} (h : Typed Tryz.prog 30 ts) : ∃ l, ts = [entriesT l] ∧ l.length * 56 ≤ 140737488351232 ∧ ∀ e ∈ l, EOk e := by
  obtain ⟨parts, rfl, hl, hp⟩ := h.struct_inv Tryz.underlying30
  match parts, hl with
  | [p0], _ =>
    obtain ⟨l, rfl, hb, _, hC⟩ := row_of (hp 0 _ _ rfl rfl) Tryz.underlying28 (fun r hr => entry_of hr)
    rw [show Tryz.prog.bytesOf 68 = 56 from by kernel_rfl] at hb
    rw [show Tryz.prog.cellsOf 68 = 3 from by kernel_rfl]
    exact ⟨l, rfl, hb, hC⟩
section
variable {H : Type} {enc : TypeId × Value → H} {w : World} {r : Reach} {b0 : Nat} {v : Value} {d : DataW H} {ps : List MemPlace}
set_option maxRecDepth 100000 in
/-- An argument that is a schema. -/
theorem open_schema (hv : Value.okWide Tryz.prog w r b0 24 v) (h : DataW.Trod enc Tryz.prog w 0 (fun _ => true) true 24 v d ps) (hw : ∀ n ∈ d.weights Tryz.prog 24, n ≤ reachBytes) :
    ∃ l u, v = .agg #[u] ∧ T.At bare w (fun g => g < w.heap.size) (fieldsT l) u ∧ l.length * 72 ≤ 140737488351232 ∧ (∀ f ∈ l, FOk f) ∧ T.bulkL [fieldsT l] ≤ Rows.uptoBulk d := by
  obtain ⟨ts, vs, rfl, h1, h2, h3⟩ := open_struct sFine (.head _) Tryz.underlying24 hv h hw
  obtain ⟨l, rfl, h4, h5⟩ := schema_of h2
  obtain ⟨u, r, rfl, h6, h7⟩ := AtL.cons_ h1
  obtain rfl := AtL.nil_ h7
  exact ⟨l, u, rfl, h6, h4, h5, h3⟩
set_option maxRecDepth 100000 in
/-- An argument that is a document. -/
theorem open_doc (hv : Value.okWide Tryz.prog w r b0 30 v) (h : DataW.Trod enc Tryz.prog w 0 (fun _ => true) true 30 v d ps) (hw : ∀ n ∈ d.weights Tryz.prog 30, n ≤ reachBytes) :
    ∃ l u, v = .agg #[u] ∧ T.At bare w (fun g => g < w.heap.size) (entriesT l) u ∧ l.length * 56 ≤ 140737488351232 ∧ (∀ e ∈ l, EOk e) ∧ T.bulkL [entriesT l] ≤ Rows.uptoBulk d := by
  obtain ⟨ts, vs, rfl, h1, h2, h3⟩ := open_struct sFine (.tail _ (.tail _ (.tail _ (.head _)))) Tryz.underlying30 hv h hw
  obtain ⟨l, rfl, h4, h5⟩ := doc_of h2
  obtain ⟨u, r, rfl, h6, h7⟩ := AtL.cons_ h1
  obtain rfl := AtL.nil_ h7
  exact ⟨l, u, rfl, h6, h4, h5, h3⟩
end
end Go.Proofs.YtfckomjbgopmaaaGreatDoor.Sch
end
