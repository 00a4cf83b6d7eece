/- Schemas and documents as trees: their cells, what is known of them, and arguments opened as such. Requests as trees in memory; an argument that is a request. Contracts: the program's and the document's Name. -/
import Derived.Test.YtinmiekbhoemjaaGreatDoorPack1
import Derived.Test.YtinmiekbhoemjaaGreatDoorPack7
import Derived.Test.YtinmiekbhoemjaaGreatDoorPack5
import Derived.Test.YtinmiekbhoemjaaGreatDoorProg
import Derived.Lib.Hide
import Derived.Lib.ConvBytes
import Derived.WalkKit
import Derived.ProofKit
import Derived.LoopTactic
section
set_option linter.unusedVariables false
namespace Go.Proofs.YtinmiekbhoemjaaGreatDoor.Sch
open Go.RowKit Go.WideShapes Go.ChangeShapes Words Tree SchP

def fcells (f : FT) : List T := [.lit (.string f.name), .lit (.int .i64 f.kind), numsT .i64 f.chain, .lit (.int .i64 f.scale), .lit (.int .i64 f.dims), .lit (.bool f.many), .lit (.bool f.stored)]
theorem fcells_len (f : FT) : (fcells f).length = 7 := rfl
abbrev fieldsT (l : List FT) : T := rowT 7 fcells l
/-- In the machine's range. -/
def I64 (n : Int) : Prop := -9223372036854775808 ≤ n ∧ n ≤ 9223372036854775807
def NumsOk (l : List Int) : Prop := l.length * 8 ≤ 140737488351232 ∧ ∀ z ∈ l, I64 z
structure FOk (f : FT) : Prop where
  name : f.name.size ≤ 140737488351232
  kind : I64 f.kind
  chain : NumsOk f.chain
  scale : I64 f.scale
  dims : I64 f.dims
structure EOk (e : ET) : Prop where
  field : e.field.size ≤ 140737488351232
  text : e.text.size ≤ 140737488351232
  nums : NumsOk e.nums
structure COk (c : CT) : Prop where
  field : I64 c.field
  text : c.text.size ≤ 140737488351232
  nums : NumsOk c.nums

section
variable {sent : Nat → List (List Value)} {w : World} {S : Nat → Prop}
theorem at_fcells {f : FT} {vs : List Value} (h : T.AtL sent w S (fcells f) vs) : ∃ v, vs = [.string f.name, .int .i64 f.kind, v, .int .i64 f.scale, .int .i64 f.dims, .bool f.many, .bool f.stored] ∧ T.At sent w S (numsT .i64 f.chain) v := by
  rw [fcells] at h
  obtain ⟨v0, r, rfl, h0, h⟩ := AtL.cons_ h
  obtain ⟨v1, r, rfl, h1, h⟩ := AtL.cons_ h
  obtain ⟨v2, r, rfl, h2, h⟩ := AtL.cons_ h
  obtain ⟨v3, r, rfl, h3, h⟩ := AtL.cons_ h
  obtain ⟨v4, r, rfl, h4, h⟩ := AtL.cons_ h
  obtain ⟨v5, r, rfl, h5, h⟩ := AtL.cons_ h
  obtain ⟨v6, r, rfl, h6, h⟩ := AtL.cons_ h
  obtain rfl := AtL.nil_ h
  simp only [T.At] at h0 h1 h3 h4 h5 h6
  subst h0 h1 h3 h4 h5 h6
  exact ⟨v2, rfl, h2⟩
theorem fcells_mk {f : FT} {v : Value} (h : T.At sent w S (numsT .i64 f.chain) v) : T.AtL sent w S (fcells f) [.string f.name, .int .i64 f.kind, v, .int .i64 f.scale, .int .i64 f.dims, .bool f.many, .bool f.stored] := by
  simp only [fcells, T.AtL, T.At, true_and, and_true]
  exact h
end

theorem i64_of {n : Int} (h : (Lit.int .i64 n).wf = true) : I64 n := Law.wf64 h
theorem field_of {ts : List T} (h : Typed Tryz.prog 46 ts) : ∃ f, ts = fcells f ∧ FOk f := by
  obtain ⟨parts, rfl, hl, hp⟩ := h.struct_inv Tryz.underlying46
  match parts, hl with
  | [p0, p1, p2, p3, p4, p5, p6], _ =>
    obtain ⟨n, rfl, w0⟩ := (hp 0 _ _ rfl rfl).str_inv Tryz.underlying9
    obtain ⟨kd, rfl, w1⟩ := (hp 1 _ _ rfl rfl).int_inv Tryz.underlying3
    obtain ⟨ch, rfl, b2, w2⟩ := nums_of (hp 2 _ _ rfl rfl) Tryz.underlying44 Tryz.underlying3 (by kernel_rfl)
    obtain ⟨sc, rfl, w3⟩ := (hp 3 _ _ rfl rfl).int_inv Tryz.underlying3
    obtain ⟨di, rfl, w4⟩ := (hp 4 _ _ rfl rfl).int_inv Tryz.underlying3
    obtain ⟨m, rfl⟩ := (hp 5 _ _ rfl rfl).bool_inv Tryz.underlying4
    obtain ⟨s, rfl⟩ := (hp 6 _ _ rfl rfl).bool_inv Tryz.underlying4
    rw [show Tryz.prog.bytesOf 3 = 8 from by kernel_rfl] at b2
    exact ⟨⟨n, kd, ch, sc, di, m, s⟩, rfl, ⟨w0, i64_of w1, ⟨b2, fun z hz => i64_of (w2 z hz)⟩, i64_of w3, i64_of w4⟩⟩
theorem schema_of {ts : List T} (h : Typed Tryz.prog 24 ts) : ∃ l, ts = [fieldsT l] ∧ l.length * 72 ≤ 140737488351232 ∧ ∀ f ∈ l, FOk f := by
  obtain ⟨parts, rfl, hl, hp⟩ := h.struct_inv Tryz.underlying24
  match parts, hl with
  | [p0], _ =>
    obtain ⟨l, rfl, hb, _, hC⟩ := row_of (hp 0 _ _ rfl rfl) Tryz.underlying22 (fun r hr => field_of hr)
    rw [show Tryz.prog.bytesOf 46 = 72 from by kernel_rfl] at hb
    rw [show Tryz.prog.cellsOf 46 = 7 from by kernel_rfl]
    exact ⟨l, rfl, hb, hC⟩
section
variable {H : Type} {enc : TypeId × Value → H} {w : World} {r : Reach} {b0 : Nat} {v : Value} {d : DataW H} {ps : List MemPlace}
end
end Go.Proofs.YtinmiekbhoemjaaGreatDoor.Sch
end
section
set_option linter.unusedVariables false
namespace Go.Proofs.YtinmiekbhoemjaaGreatDoor.Qck
open Go.RowKit Words Tree QryP SchP QckP

def scells (k : SortT) : List T := [.lit (.string k.field), .lit (.bool k.down), .lit (.bool k.first)]
def kcells (k : KeyT) : List T := [.lit (.int .i64 k.kind), .lit (.int .i64 k.num), .lit (.string k.text)]
def cucells (c : List KeyT × Int) : List T := [rowT 3 kcells c.1, .lit (.int .u64 c.2)]
def strcells (s : ByteArray) : List T := [.lit (.string s)]
mutual
def acells : AggT → List T
  | .mk n k f s b t ks => [.lit (.string n), .lit (.int .i64 k), .lit (.string f), .lit (.int .i64 s), numsT .i64 b, .lit (.int .i64 t), .arr 7 ks.length (acellsL ks)]
def acellsL : List AggT → List T
  | [] => []
  | a :: l => acells a ++ acellsL l
end
theorem acellsL_eq : ∀ l : List AggT, acellsL l = l.flatMap acells
  | [] => by rw [acellsL]; rfl
  | a :: l => by rw [acellsL, acellsL_eq l, List.flatMap_cons]
theorem acells_len : ∀ a : AggT, (acells a).length = 7
  | .mk _ _ _ _ _ _ _ => by rw [acells]; rfl
/-- The cells of what stands behind the query. -/
def tailT (r : ReqT) : List T := [rowT 3 scells r.sort, rowT 2 cucells r.after, .lit (.int .i64 r.size), .lit (.string r.collapse), rowT 7 acells r.aggs, rowT 1 strcells r.fields]
def rcells (r : ReqT) : List T := Qry.cells r.query ++ tailT r
structure SOk (k : SortT) : Prop where
  field : k.field.size ≤ 140737488351232
structure KOk (k : KeyT) : Prop where
  kind : Sch.I64 k.kind
  num : Sch.I64 k.num
  text : k.text.size ≤ 140737488351232
def COk (c : List KeyT × Int) : Prop := c.1.length * 32 ≤ 140737488351232 ∧ ∀ k ∈ c.1, KOk k
inductive AOk : AggT → Prop where
  | mk {n : ByteArray} {k : Int} {f : ByteArray} {s : Int} {b : List Int} {t : Int} {ks : List AggT} (hn : n.size ≤ 140737488351232) (hk : Sch.I64 k) (hf : f.size ≤ 140737488351232) (hs : Sch.I64 s) (hb : Sch.NumsOk b) (ht : Sch.I64 t) (hl : ks.length * 104 ≤ 140737488351232) (ha : ∀ a ∈ ks, AOk a) : AOk (.mk n k f s b t ks)
structure ROk (r : ReqT) : Prop where
  query : Qry.Ok r.query
  sort : r.sort.length * 24 ≤ 140737488351232 ∧ ∀ k ∈ r.sort, SOk k
  after : r.after.length * 32 ≤ 140737488351232 ∧ ∀ c ∈ r.after, COk c
  size : Sch.I64 r.size
  collapse : r.collapse.size ≤ 140737488351232
  aggs : r.aggs.length * 104 ≤ 140737488351232 ∧ ∀ a ∈ r.aggs, AOk a
  fields : r.fields.length * 16 ≤ 140737488351232 ∧ ∀ s ∈ r.fields, s.size ≤ 140737488351232
def rTypes : List TypeId := [34, 28, 26, 25, 2, 3, 9, 29, 73, 4, 30, 61, 58, 64, 59, 31, 87, 32]
theorem rFine : fineB Tryz.prog rTypes = true := by kernel_rfl
theorem sort_of {ts : List T} (h : Typed Tryz.prog 73 ts) : ∃ k, ts = scells k ∧ SOk k := by
  obtain ⟨parts, rfl, hl, hp⟩ := h.struct_inv Tryz.underlying73
  match parts, hl with
  | [p0, p1, p2], _ =>
    obtain ⟨f, rfl, w0⟩ := (hp 0 _ _ rfl rfl).str_inv Tryz.underlying9
    obtain ⟨d, rfl⟩ := (hp 1 _ _ rfl rfl).bool_inv Tryz.underlying4
    obtain ⟨e, rfl⟩ := (hp 2 _ _ rfl rfl).bool_inv Tryz.underlying4
    exact ⟨⟨f, d, e⟩, rfl, ⟨w0⟩⟩
theorem key_of {ts : List T} (h : Typed Tryz.prog 64 ts) : ∃ k, ts = kcells k ∧ KOk k := by
  obtain ⟨parts, rfl, hl, hp⟩ := h.struct_inv Tryz.underlying64
  match parts, hl with
  | [p0, p1, p2], _ =>
    obtain ⟨k, rfl, w0⟩ := (hp 0 _ _ rfl rfl).int_inv Tryz.underlying3
    obtain ⟨n, rfl, w1⟩ := (hp 1 _ _ rfl rfl).int_inv Tryz.underlying2
    obtain ⟨t, rfl, w2⟩ := (hp 2 _ _ rfl rfl).str_inv Tryz.underlying9
    exact ⟨⟨k, n, t⟩, rfl, ⟨Sch.i64_of w0, Sch.i64_of w1, w2⟩⟩
theorem cursor_of {ts : List T} (h : Typed Tryz.prog 61 ts) : ∃ c, ts = cucells c ∧ COk c := by
  obtain ⟨parts, rfl, hl, hp⟩ := h.struct_inv Tryz.underlying61
  match parts, hl with
  | [p0, p1], _ =>
    obtain ⟨l, rfl, hb, _, hC⟩ := row_of (hp 0 _ _ rfl rfl) Tryz.underlying58 (fun r hr => key_of hr)
    obtain ⟨n, rfl, _⟩ := (hp 1 _ _ rfl rfl).int_inv Tryz.underlying59
    rw [show Tryz.prog.bytesOf 64 = 32 from by kernel_rfl] at hb
    rw [show Tryz.prog.cellsOf 64 = 3 from by kernel_rfl]
    exact ⟨(l, n), rfl, hb, hC⟩
set_option maxRecDepth 100000 in
theorem agg_of : ∀ (n : Nat) (ts : List T), T.bulkL ts ≤ n → Typed Tryz.prog 87 ts → ∃ a, ts = acells a ∧ AOk a
  | n, ts, hn, h => by
    obtain ⟨parts, rfl, hl, hp⟩ := h.struct_inv Tryz.underlying87
    match parts, hl with
    | [p0, p1, p2, p3, p4, p5, p6], _ =>
      obtain ⟨nm, rfl, w0⟩ := (hp 0 _ _ rfl rfl).str_inv Tryz.underlying9
      obtain ⟨k, rfl, w1⟩ := (hp 1 _ _ rfl rfl).int_inv Tryz.underlying3
      obtain ⟨f, rfl, w2⟩ := (hp 2 _ _ rfl rfl).str_inv Tryz.underlying9
      obtain ⟨s, rfl, w3⟩ := (hp 3 _ _ rfl rfl).int_inv Tryz.underlying3
      obtain ⟨b, rfl, b4, w4⟩ := nums_of (hp 4 _ _ rfl rfl) Tryz.underlying25 Tryz.underlying2 (by kernel_rfl)
      obtain ⟨t, rfl, w5⟩ := (hp 5 _ _ rfl rfl).int_inv Tryz.underlying2
      obtain ⟨rows, rfl, hr, _, hb, _⟩ := (hp 6 _ _ rfl rfl).slice_inv Tryz.underlying31
      have hlt : T.bulkL rows.flatten < n := by
        simp only [List.flatten_cons, List.flatten_nil, bulkL_append, T.bulkL, T.bulk] at hn
        omega
      obtain ⟨ks, rfl, hk⟩ := rows_of (f := acells) (C := AOk) (fun r hr' => agg_of (n - 1) r (by have := flatL_mem hr'; omega) (hr r hr'))
      rw [List.length_map, show Tryz.prog.bytesOf 87 = 104 from by kernel_rfl] at hb
      rw [show Tryz.prog.bytesOf 2 = 8 from by kernel_rfl] at b4
      refine ⟨.mk nm k f s b t ks, ?_, .mk w0 (Sch.i64_of w1) w2 (Sch.i64_of w3) ⟨b4, fun z hz => Sch.i64_of (w4 z hz)⟩ (Sch.i64_of w5) hb hk⟩
      rw [List.length_map, show Tryz.prog.cellsOf 87 = 7 from by kernel_rfl, acells, acellsL_eq, List.flatMap_def]
      rfl
  termination_by n => n
  decreasing_by omega
set_option maxRecDepth 100000 in
theorem req_of {ts : List T} (h : Typed Tryz.prog 34 ts) : ∃ r, ts = rcells r ∧ ROk r := by
  obtain ⟨parts, rfl, hl, hp⟩ := h.struct_inv Tryz.underlying34
  match parts, hl with
  | [p0, p1, p2, p3, p4, p5, p6], _ =>
    obtain ⟨q, rfl, hq⟩ := Qry.query_of _ p0 (Nat.le_refl _) (hp 0 _ _ rfl rfl)
    obtain ⟨l1, rfl, hb1, _, hC1⟩ := row_of (hp 1 _ _ rfl rfl) Tryz.underlying29 (fun r hr => sort_of hr)
    obtain ⟨l2, rfl, hb2, _, hC2⟩ := row_of (hp 2 _ _ rfl rfl) Tryz.underlying30 (fun r hr => cursor_of hr)
    obtain ⟨n, rfl, w3⟩ := (hp 3 _ _ rfl rfl).int_inv Tryz.underlying3
    obtain ⟨s, rfl, w4⟩ := (hp 4 _ _ rfl rfl).str_inv Tryz.underlying9
    obtain ⟨l5, rfl, hb5, _, hC5⟩ := row_of (hp 5 _ _ rfl rfl) Tryz.underlying31 (fun r hr => agg_of _ r (Nat.le_refl _) hr)
    obtain ⟨l6, rfl, hb6, _, hC6⟩ := row_of (f := strcells) (C := fun s => s.size ≤ 140737488351232) (hp 6 _ _ rfl rfl) Tryz.underlying32 (fun r hr => by
      obtain ⟨s, rfl, w⟩ := hr.str_inv Tryz.underlying9
      exact ⟨s, rfl, w⟩)
    rw [show Tryz.prog.bytesOf 73 = 24 from by kernel_rfl] at hb1
    rw [show Tryz.prog.bytesOf 61 = 32 from by kernel_rfl] at hb2
    rw [show Tryz.prog.bytesOf 87 = 104 from by kernel_rfl] at hb5
    rw [show Tryz.prog.bytesOf 9 = 16 from by kernel_rfl] at hb6
    rw [show Tryz.prog.cellsOf 73 = 3 from by kernel_rfl, show Tryz.prog.cellsOf 61 = 2 from by kernel_rfl, show Tryz.prog.cellsOf 87 = 7 from by kernel_rfl, show Tryz.prog.cellsOf 9 = 1 from by kernel_rfl]
    exact ⟨⟨q, l1, l2, n, s, l5, l6⟩, by simp [rcells, tailT], ⟨hq, ⟨hb1, hC1⟩, ⟨hb2, hC2⟩, Sch.i64_of w3, w4, ⟨hb5, hC5⟩, ⟨hb6, hC6⟩⟩⟩
section
variable {H : Type} {enc : TypeId × Value → H} {w : World} {r : Reach} {b0 : Nat} {v : Value} {d : DataW H} {ps : List MemPlace}
set_option maxRecDepth 100000 in
/-- An argument that is a request. -/
theorem open_req (hv : Value.okWide Tryz.prog w r b0 34 v) (h : DataW.Trod enc Tryz.prog w 0 (fun _ => true) true 34 v d ps) (hw : ∀ n ∈ d.weights Tryz.prog 34, n ≤ reachBytes) :
    ∃ x vs, v = .agg vs.toArray ∧ T.AtL bare w (fun g => g < w.heap.size) (rcells x) vs ∧ ROk x ∧ T.bulkL (rcells x) ≤ Rows.uptoBulk d := by
  obtain ⟨ts, vs, rfl, h1, h2, h3⟩ := open_struct rFine (by simp [rTypes]) Tryz.underlying34 hv h hw
  obtain ⟨x, rfl, hx⟩ := req_of h2
  exact ⟨x, vs, rfl, h1, hx, h3⟩
end
end Go.Proofs.YtinmiekbhoemjaaGreatDoor.Qck
end
section
set_option linter.unusedVariables false
namespace Go.Proofs.YtinmiekbhoemjaaGreatDoor.Sch
open Go.RowKit Go.Lib Words Kit SchP

/-- A bool is answered. -/
def AnsB (b : Bool) (w : World) (e : Ending) (w' : World) : Prop := e = .returned (.bool b) ∧ Below w.heap.size w w'
theorem below_bytesWorld (w : World) (e : TypeId) (s : ByteArray) : Below w.heap.size w (bytesWorld w e s) := by
  refine ⟨rfl, rfl, rfl, by rw [bytesWorld_size]; omega, fun k hk => bytesWorld_at_old w e s k hk⟩
theorem byteB_cases (i : Nat) (c : UInt8) : byteB i c = true ∧ ((97 ≤ (c.toNat : Int) ∧ (c.toNat : Int) ≤ 122) ∨ (c.toNat : Int) = 95 ∨ ((0 : Int) < i ∧ 48 ≤ (c.toNat : Int) ∧ (c.toNat : Int) ≤ 57))
    ∨ byteB i c = false ∧ ¬ ((97 ≤ (c.toNat : Int) ∧ (c.toNat : Int) ≤ 122) ∨ (c.toNat : Int) = 95 ∨ ((0 : Int) < i ∧ 48 ≤ (c.toNat : Int) ∧ (c.toNat : Int) ≤ 57)) := by
  cases h : byteB i c with
  | true =>
    left
    simp only [byteB, Bool.or_eq_true, Bool.and_eq_true, decide_eq_true_eq] at h
    exact ⟨rfl, by omega⟩
  | false =>
    right
    simp only [byteB, Bool.or_eq_false_iff, Bool.and_eq_false_iff, decide_eq_false_iff_not] at h
    exact ⟨rfl, by omega⟩

set_option maxRecDepth 100000 in
set_option maxHeartbeats 1000000 in
theorem name_any (s : ByteArray) (w : World) (hs : s.size ≤ 140737488351232) : Calls Tryz.prog 48 #[.string s] w (AnsB (nameB s) w) := by
  have hcv := Go.Lib.run_convert_string_bytes (P := Tryz.prog) w 9 97 5 s (u := .string) Tryz.underlying9 Tryz.underlying97 Tryz.underlying5
  have HB := Lib.hid (below_bytesWorld w 5 s)
  have HC := Lib.hid (bytesWorld_cell w 5 s)
  have hz := bytesWorld_size w 5 s
  have hln : s.data.toList.length = s.size := by simp
  obtain ⟨r, hr⟩ : ∃ r, bytesB 0 s.data.toList = r := ⟨_, rfl⟩
  have HR : Hid (bytesB 0 (s.data.toList.drop 0) = r) := Lib.hid hr
  have HN : Hid (nameB s = (r && decide (1 ≤ s.size) && decide (s.size ≤ 24))) := Lib.hid (by rw [nameB, hr])
  clear hr
  generalize bytesWorld w 5 s = W at *
  go_enter Tryz.func48, Tryz.ntmps48
  go_wp2_with fail
  go_loop [3, 4, 8] (fun _ _ i => ∃ k : Nat, k ≤ s.size ∧ i = .int .i64 k ∧ Hid (bytesB k (s.data.toList.drop k) = r)) (fun _ _ i => s.size - (RowKit.intOf i).toNat)
  case atStart => exact ⟨0, by omega, rfl, HR⟩
  case round =>
    obtain ⟨k, hk, rfl, HE⟩ := hrel
    by_cases hlt : k < s.size
    · have hc := HC.out k hlt
      have HS : Hid (bytesB k (s.data.toList.drop k) = (byteB k (s.data.toList.getD k 0) && bytesB (k + 1) (s.data.toList.drop (k + 1)))) := Lib.hid (by rw [bytesB_step (by omega), List.getD_eq_getElem?_getD, List.getElem?_eq_getElem (by omega)]; rfl)
      have hcs := byteB_cases k (s.data.toList.getD k 0)
      have hlc := (s.data.toList.getD k 0).toNat_lt
      have hc2 : W.cell? ⟨w.heap.size, 0 + k, none⟩ = some (.int .u8 (s.data.toList.getD k 0).toNat) := by rw [Nat.zero_add]; exact hc
      generalize s.data.toList.getD k 0 = c at *
      generalize hcn : c.toNat = n at *
      rcases hcs with ⟨hb, hcs⟩ | ⟨hb, hcs⟩
      · have HE2 : Hid (bytesB (k + 1) (s.data.toList.drop (k + 1)) = r) := Lib.hid (by rw [← HE.out, HS.out, hb]; rfl)
        clear hb HS
        rcases (show (97 ≤ (n : Int) ∧ (n : Int) ≤ 122) ∨ (n : Int) = 95 ∨ ((n : Int) < 95 ∧ (0 : Int) < k ∧ 48 ≤ (n : Int) ∧ (n : Int) ≤ 57) by omega) with ⟨h1, h2⟩ | h1 | ⟨h0', h1, h2, h3⟩
        · have d1 : decide (97 ≤ (n : Int)) = true := by simpa using h1
          have d2 : decide ((n : Int) ≤ 122) = true := by simpa using h2
          go_wp2_with fail
          go_round
          case rel => exact ⟨k + 1, by omega, by go_num, HE2⟩
          case measure => simp [RowKit.intOf]; omega
        · have d1 : decide (97 ≤ (n : Int)) = false := by rw [decide_eq_false_iff_not]; omega
          have d2 : ((n : Int) == 95) = true := by rw [h1]; rfl
          go_wp2_with fail
          go_round
          case rel => exact ⟨k + 1, by omega, by go_num, HE2⟩
          case measure => simp [RowKit.intOf]; omega
        · have d1 : decide (97 ≤ (n : Int)) = false := by rw [decide_eq_false_iff_not]; omega
          have d2 : ((n : Int) == 95) = false := by rw [beq_eq_false_iff_ne]; omega
          have d3 : decide ((0 : Int) < k) = true := by simpa using h1
          have d4 : decide (48 ≤ (n : Int)) = true := by simpa using h2
          have d5 : decide ((n : Int) ≤ 57) = true := by simpa using h3
          go_wp2_with fail
          go_round
          case rel => exact ⟨k + 1, by omega, by go_num, HE2⟩
          case measure => simp [RowKit.intOf]; omega
      · have HA : Hid (nameB s = false) := Lib.hid (by rw [HN.out, ← HE.out, HS.out, hb]; rfl)
        clear hb HS
        rcases (show ((n : Int) < 97 ∧ (n : Int) ≠ 95 ∧ (k : Int) ≤ 0) ∨ ((n : Int) < 97 ∧ (n : Int) ≠ 95 ∧ 0 < k ∧ (n : Int) < 48) ∨ ((n : Int) < 97 ∧ (n : Int) ≠ 95 ∧ 0 < k ∧ 57 < (n : Int)) ∨ (122 < (n : Int) ∧ (k : Int) ≤ 0) ∨ (122 < (n : Int) ∧ 0 < k) by omega) with ⟨q1, q2, q3⟩ | ⟨q1, q2, q3, q4⟩ | ⟨q1, q2, q3, q4⟩ | ⟨q1, q2⟩ | ⟨q1, q2⟩
        · have d1 : decide (97 ≤ (n : Int)) = false := by rw [decide_eq_false_iff_not]; omega
          have d3 : ((n : Int) == 95) = false := by rw [beq_eq_false_iff_ne]; omega
          have d4 : decide ((0 : Int) < k) = false := by rw [decide_eq_false_iff_not]; omega
          go_wp2_with fail
          go_ret
          rw [HA.out]; exact ⟨rfl, HB.out⟩
        · have d1 : decide (97 ≤ (n : Int)) = false := by rw [decide_eq_false_iff_not]; omega
          have d3 : ((n : Int) == 95) = false := by rw [beq_eq_false_iff_ne]; omega
          have d4 : decide ((0 : Int) < k) = true := by rw [decide_eq_true_iff]; omega
          have d5 : decide (48 ≤ (n : Int)) = false := by rw [decide_eq_false_iff_not]; omega
          go_wp2_with fail
          go_ret
          rw [HA.out]; exact ⟨rfl, HB.out⟩
        · have d1 : decide (97 ≤ (n : Int)) = false := by rw [decide_eq_false_iff_not]; omega
          have d3 : ((n : Int) == 95) = false := by rw [beq_eq_false_iff_ne]; omega
          have d4 : decide ((0 : Int) < k) = true := by rw [decide_eq_true_iff]; omega
          have d5 : decide (48 ≤ (n : Int)) = true := by rw [decide_eq_true_iff]; omega
          have d6 : decide ((n : Int) ≤ 57) = false := by rw [decide_eq_false_iff_not]; omega
          go_wp2_with fail
          go_ret
          rw [HA.out]; exact ⟨rfl, HB.out⟩
        · have d1 : decide (97 ≤ (n : Int)) = true := by rw [decide_eq_true_iff]; omega
          have d2 : decide ((n : Int) ≤ 122) = false := by rw [decide_eq_false_iff_not]; omega
          have d3 : ((n : Int) == 95) = false := by rw [beq_eq_false_iff_ne]; omega
          have d4 : decide ((0 : Int) < k) = false := by rw [decide_eq_false_iff_not]; omega
          go_wp2_with fail
          go_ret
          rw [HA.out]; exact ⟨rfl, HB.out⟩
        · have d1 : decide (97 ≤ (n : Int)) = true := by rw [decide_eq_true_iff]; omega
          have d2 : decide ((n : Int) ≤ 122) = false := by rw [decide_eq_false_iff_not]; omega
          have d3 : ((n : Int) == 95) = false := by rw [beq_eq_false_iff_ne]; omega
          have d4 : decide ((0 : Int) < k) = true := by rw [decide_eq_true_iff]; omega
          have d5 : decide (48 ≤ (n : Int)) = true := by rw [decide_eq_true_iff]; omega
          have d6 : decide ((n : Int) ≤ 57) = false := by rw [decide_eq_false_iff_not]; omega
          go_wp2_with fail
          go_ret
          rw [HA.out]; exact ⟨rfl, HB.out⟩
    · obtain rfl : k = s.size := by omega
      have HF : Hid (r = true) := Lib.hid (by rw [← HE.out, ← hln, List.drop_length]; rfl)
      have hlt2 : ¬ s.size < s.size := by omega
      by_cases h1 : 1 ≤ s.size
      · by_cases h2 : s.size ≤ 24
        · have HA : Hid (nameB s = true) := Lib.hid (by rw [HN.out, HF.out, decide_eq_true h1, decide_eq_true h2]; rfl)
          have d1 : decide (1 ≤ (s.size : Int)) = true := by rw [decide_eq_true_iff]; omega
          have d2 : decide ((s.size : Int) ≤ 24) = true := by rw [decide_eq_true_iff]; omega
          go_wp2_with fail
          go_ret
          rw [HA.out]; exact ⟨rfl, HB.out⟩
        · have HA : Hid (nameB s = false) := Lib.hid (by rw [HN.out, HF.out, decide_eq_true h1, decide_eq_false h2]; rfl)
          have d1 : decide (1 ≤ (s.size : Int)) = true := by rw [decide_eq_true_iff]; omega
          have d2 : decide ((s.size : Int) ≤ 24) = false := by rw [decide_eq_false_iff_not]; omega
          go_wp2_with fail
          go_ret
          rw [HA.out]; exact ⟨rfl, HB.out⟩
      · have HA : Hid (nameB s = false) := Lib.hid (by rw [HN.out, HF.out, decide_eq_false h1]; rfl)
        have d1 : decide (1 ≤ (s.size : Int)) = false := by rw [decide_eq_false_iff_not]; omega
        go_wp2_with fail
        go_ret
        rw [HA.out]; exact ⟨rfl, HB.out⟩
set_option maxRecDepth 100000 in
set_option maxHeartbeats 1000000 in
theorem refName_any (s : ByteArray) (w : World) (hs : s.size ≤ 140737488351232) : Calls Tryz.prog 39 #[.string s] w (AnsB (nameB s) w) := by
  have hln : s.data.toList.length = s.size := by simp
  obtain ⟨r, hr⟩ : ∃ r, bytesB 0 s.data.toList = r := ⟨_, rfl⟩
  have HR : Hid (bytesB 0 (s.data.toList.drop 0) = r) := Lib.hid hr
  have HN : Hid (nameB s = (r && decide (1 ≤ s.size) && decide (s.size ≤ 24))) := Lib.hid (by rw [nameB, hr])
  clear hr
  go_enter Tryz.func39, Tryz.ntmps39
  go_wp2_with fail
  go_loop [3, 4] (fun i _ => ∃ k : Nat, k ≤ s.size ∧ i = .int .i64 k ∧ Hid (bytesB k (s.data.toList.drop k) = r)) (fun i _ => s.size - (RowKit.intOf i).toNat)
  case atStart => exact ⟨0, by omega, rfl, HR⟩
  case round =>
    obtain ⟨k, hk, rfl, HE⟩ := hrel
    by_cases hlt : k < s.size
    · have HS : Hid (bytesB k (s.data.toList.drop k) = (byteB k s[k] && bytesB (k + 1) (s.data.toList.drop (k + 1)))) := Lib.hid (by rw [bytesB_step (by omega)]; rfl)
      have hcs := byteB_cases k s[k]
      have hlc := (s[k]).toNat_lt
      rcases hcs with ⟨hb, hcs⟩ | ⟨hb, hcs⟩
      · have HE2 : Hid (bytesB (k + 1) (s.data.toList.drop (k + 1)) = r) := Lib.hid (by rw [← HE.out, HS.out, hb]; rfl)
        clear hb HS
        rcases (show (97 ≤ ((s[k]).toNat : Int) ∧ ((s[k]).toNat : Int) ≤ 122) ∨ (((s[k]).toNat : Int) = 95) ∨ (((s[k]).toNat : Int) < 95 ∧ (0 : Int) < k ∧ 48 ≤ ((s[k]).toNat : Int) ∧ ((s[k]).toNat : Int) ≤ 57) by omega) with ⟨h1, h2⟩ | h1 | ⟨h0', h1, h2, h3⟩
        · have e1 : decide (48 ≤ ((s[k]).toNat : Int)) = true := by rw [decide_eq_true_iff]; omega
          have e2 : decide (((s[k]).toNat : Int) ≤ 57) = false := by rw [decide_eq_false_iff_not]; omega
          have e3 : decide (97 ≤ ((s[k]).toNat : Int)) = true := by rw [decide_eq_true_iff]; omega
          have e4 : decide (((s[k]).toNat : Int) ≤ 122) = true := by rw [decide_eq_true_iff]; omega
          go_wp2_with fail
          go_round
          case rel => exact ⟨k + 1, by omega, by go_num, HE2⟩
          case measure => simp [RowKit.intOf]; omega
        · have e1 : decide (48 ≤ ((s[k]).toNat : Int)) = true := by rw [decide_eq_true_iff]; omega
          have e2 : decide (((s[k]).toNat : Int) ≤ 57) = false := by rw [decide_eq_false_iff_not]; omega
          have e3 : decide (97 ≤ ((s[k]).toNat : Int)) = false := by rw [decide_eq_false_iff_not]; omega
          have e5 : (((s[k]).toNat : Int) != 95) = false := by rw [bne_eq_false_iff_eq]; omega
          go_wp2_with fail
          go_round
          case rel => exact ⟨k + 1, by omega, by go_num, HE2⟩
          case measure => simp [RowKit.intOf]; omega
        · have e1 : decide (48 ≤ ((s[k]).toNat : Int)) = true := by rw [decide_eq_true_iff]; omega
          have e2 : decide (((s[k]).toNat : Int) ≤ 57) = true := by rw [decide_eq_true_iff]; omega
          have e3 : decide (97 ≤ ((s[k]).toNat : Int)) = false := by rw [decide_eq_false_iff_not]; omega
          have e5 : (((s[k]).toNat : Int) != 95) = true := by rw [bne_iff_ne]; omega
          have e6 : ((k : Int) == 0) = false := by rw [beq_eq_false_iff_ne]; omega
          go_wp2_with fail
          go_round
          case rel => exact ⟨k + 1, by omega, by go_num, HE2⟩
          case measure => simp [RowKit.intOf]; omega
      · have HA : Hid (nameB s = false) := Lib.hid (by rw [HN.out, ← HE.out, HS.out, hb]; rfl)
        clear hb HS
        rcases (show (((s[k]).toNat : Int) < 48 ∧ ((s[k]).toNat : Int) ≠ 95) ∨ (48 ≤ ((s[k]).toNat : Int) ∧ ((s[k]).toNat : Int) ≤ 57 ∧ (k : Int) ≤ 0) ∨ (57 < ((s[k]).toNat : Int) ∧ ((s[k]).toNat : Int) < 97 ∧ ((s[k]).toNat : Int) ≠ 95) ∨ (122 < ((s[k]).toNat : Int)) by omega) with ⟨q1, q2⟩ | ⟨q1, q2, q3⟩ | ⟨q1, q2, q3⟩ | q1
        · have e1 : decide (48 ≤ ((s[k]).toNat : Int)) = false := by rw [decide_eq_false_iff_not]; omega
          have e3 : decide (97 ≤ ((s[k]).toNat : Int)) = false := by rw [decide_eq_false_iff_not]; omega
          have e5 : (((s[k]).toNat : Int) != 95) = true := by rw [bne_iff_ne]; omega
          go_wp2_with fail
          go_ret
          rw [HA.out]; exact ⟨rfl, Below.refl _ _⟩
        · have e1 : decide (48 ≤ ((s[k]).toNat : Int)) = true := by rw [decide_eq_true_iff]; omega
          have e2 : decide (((s[k]).toNat : Int) ≤ 57) = true := by rw [decide_eq_true_iff]; omega
          have e3 : decide (97 ≤ ((s[k]).toNat : Int)) = false := by rw [decide_eq_false_iff_not]; omega
          have e5 : (((s[k]).toNat : Int) != 95) = true := by rw [bne_iff_ne]; omega
          have e6 : ((k : Int) == 0) = true := by rw [beq_iff_eq]; omega
          go_wp2_with fail
          go_ret
          rw [HA.out]; exact ⟨rfl, Below.refl _ _⟩
        · have e1 : decide (48 ≤ ((s[k]).toNat : Int)) = true := by rw [decide_eq_true_iff]; omega
          have e2 : decide (((s[k]).toNat : Int) ≤ 57) = false := by rw [decide_eq_false_iff_not]; omega
          have e3 : decide (97 ≤ ((s[k]).toNat : Int)) = false := by rw [decide_eq_false_iff_not]; omega
          have e5 : (((s[k]).toNat : Int) != 95) = true := by rw [bne_iff_ne]; omega
          go_wp2_with fail
          go_ret
          rw [HA.out]; exact ⟨rfl, Below.refl _ _⟩
        · have e1 : decide (48 ≤ ((s[k]).toNat : Int)) = true := by rw [decide_eq_true_iff]; omega
          have e2 : decide (((s[k]).toNat : Int) ≤ 57) = false := by rw [decide_eq_false_iff_not]; omega
          have e3 : decide (97 ≤ ((s[k]).toNat : Int)) = true := by rw [decide_eq_true_iff]; omega
          have e4 : decide (((s[k]).toNat : Int) ≤ 122) = false := by rw [decide_eq_false_iff_not]; omega
          have e5 : (((s[k]).toNat : Int) != 95) = true := by rw [bne_iff_ne]; omega
          go_wp2_with fail
          go_ret
          rw [HA.out]; exact ⟨rfl, Below.refl _ _⟩
    · obtain rfl : k = s.size := by omega
      have HF : Hid (r = true) := Lib.hid (by rw [← HE.out, ← hln, List.drop_length]; rfl)
      have hlt2 : ¬ s.size < s.size := by omega
      by_cases h1 : 1 ≤ s.size
      · by_cases h2 : s.size ≤ 24
        · have HA : Hid (nameB s = true) := Lib.hid (by rw [HN.out, HF.out, decide_eq_true h1, decide_eq_true h2]; rfl)
          have d1 : decide (1 ≤ (s.size : Int)) = true := by rw [decide_eq_true_iff]; omega
          have d2 : decide ((s.size : Int) ≤ 24) = true := by rw [decide_eq_true_iff]; omega
          go_wp2_with fail
          go_ret
          rw [HA.out]; exact ⟨rfl, Below.refl _ _⟩
        · have HA : Hid (nameB s = false) := Lib.hid (by rw [HN.out, HF.out, decide_eq_true h1, decide_eq_false h2]; rfl)
          have d1 : decide (1 ≤ (s.size : Int)) = true := by rw [decide_eq_true_iff]; omega
          have d2 : decide ((s.size : Int) ≤ 24) = false := by rw [decide_eq_false_iff_not]; omega
          go_wp2_with fail
          go_ret
          rw [HA.out]; exact ⟨rfl, Below.refl _ _⟩
      · have HA : Hid (nameB s = false) := Lib.hid (by rw [HN.out, HF.out, decide_eq_false h1]; rfl)
        have d1 : decide (1 ≤ (s.size : Int)) = false := by rw [decide_eq_false_iff_not]; omega
        go_wp2_with fail
        go_ret
        rw [HA.out]; exact ⟨rfl, Below.refl _ _⟩
end Go.Proofs.YtinmiekbhoemjaaGreatDoor.Sch
end
