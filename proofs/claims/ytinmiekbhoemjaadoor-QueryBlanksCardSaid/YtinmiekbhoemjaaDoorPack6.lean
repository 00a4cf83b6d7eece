/- Queries as plain Lean data. Queries as trees: their cells, what is known of them, and arguments opened as queries. -/
import Derived.Test.YtinmiekbhoemjaaDoorPack1
import Derived.Test.YtinmiekbhoemjaaDoorOpen
section
namespace QryP
open Go
/-- A query. -/
inductive QT where
  | mk (kind occur : Int) (field text upto : ByteArray) (low high : List Int) (boost op : Int) (kids : List QT)
/-- How great a query is: more than its parts. -/
noncomputable def QT.sz (q : QT) : Nat := SizeOf.sizeOf q
theorem QT.sz_pos (q : QT) : 0 < q.sz := by cases q; simp only [QT.sz, QT.mk.sizeOf_spec]; omega
theorem QT.sz_kid {kd oc : Int} {f t u : ByteArray} {lo hi : List Int} {b op : Int} {ks : List QT} {k : QT} (h : k ∈ ks) : k.sz < (QT.mk kd oc f t u lo hi b op ks).sz := by
  have := List.sizeOf_lt_of_mem h
  simp only [QT.sz, QT.mk.sizeOf_spec]
  omega
end QryP
end
section
set_option linter.unusedVariables false
namespace Go.Proofs.YtinmiekbhoemjaaDoor.Qry
open Go.RowKit Go.WideShapes Go.ChangeShapes Words Tree QryP

/-- A row of integers as a tree. -/
def intsT (k : IntKind) (l : List Int) : T := .arr 1 l.length (l.map fun z => .lit (.int k z))
mutual
def cells : QT → List T
  | .mk kd oc f t u lo hi b op ks => [.lit (.int .i64 kd), .lit (.int .i64 oc), .lit (.string f), .lit (.string t), .lit (.string u), intsT .i64 lo, intsT .i64 hi, .lit (.int .i64 b), .lit (.int .i64 op), .arr 10 ks.length (cellsL ks)]
def cellsL : List QT → List T
  | [] => []
  | q :: qs => cells q ++ cellsL qs
end
theorem cellsL_eq : ∀ qs : List QT, cellsL qs = qs.flatMap cells
  | [] => by simp [cellsL]
  | q :: qs => by rw [cellsL, cellsL_eq qs, List.flatMap_cons]
theorem cells_len (q : QT) : (cells q).length = 10 := by cases q; simp [cells]
theorem cellsL_len (qs : List QT) : (cellsL qs).length = qs.length * 10 := by rw [cellsL_eq]; exact flatMap_len cells cells_len qs

/-- In the machine's range. -/
def I64 (n : Int) : Prop := -9223372036854775808 ≤ n ∧ n ≤ 9223372036854775807
/-- What is known of a query that came in. -/
inductive Ok : QT → Prop where
  | mk {kd oc : Int} {f t u : ByteArray} {lo hi : List Int} {b op : Int} {ks : List QT} (hkd : I64 kd) (hoc : I64 oc) (hf : f.size ≤ 140737488351232) (ht : t.size ≤ 140737488351232) (hu : u.size ≤ 140737488351232)
      (hlo : lo.length * 8 ≤ 140737488351232 ∧ ∀ z ∈ lo, I64 z) (hhi : hi.length * 8 ≤ 140737488351232 ∧ ∀ z ∈ hi, I64 z) (hb : I64 b) (hop : I64 op) (hks : ks.length * 152 ≤ 140737488351232) (hk : ∀ k ∈ ks, Ok k) : Ok (.mk kd oc f t u lo hi b op ks)

section
variable {sent : Nat → List (List Value)} {w : World} {S : Nat → Prop}
/-- The cells of a query in memory. -/
theorem at_cells {kd oc : Int} {f t u : ByteArray} {lo hi : List Int} {b op : Int} {ks : List QT} {vs : List Value} (h : T.AtL sent w S (cells (.mk kd oc f t u lo hi b op ks)) vs) :
    ∃ vl vh vk, vs = [.int .i64 kd, .int .i64 oc, .string f, .string t, .string u, vl, vh, .int .i64 b, .int .i64 op, vk] ∧ T.At sent w S (intsT .i64 lo) vl ∧ T.At sent w S (intsT .i64 hi) vh ∧ T.At sent w S (.arr 10 ks.length (cellsL ks)) vk := by
  rw [cells] at h
  obtain ⟨v0, r, rfl, h0, h⟩ := AtL.cons_ h
  obtain ⟨v1, r, rfl, h1, h⟩ := AtL.cons_ h
  obtain ⟨v2, r, rfl, h2, h⟩ := AtL.cons_ h
  obtain ⟨v3, r, rfl, h3, h⟩ := AtL.cons_ h
  obtain ⟨v4, r, rfl, h4, h⟩ := AtL.cons_ h
  obtain ⟨v5, r, rfl, h5, h⟩ := AtL.cons_ h
  obtain ⟨v6, r, rfl, h6, h⟩ := AtL.cons_ h
  obtain ⟨v7, r, rfl, h7, h⟩ := AtL.cons_ h
  obtain ⟨v8, r, rfl, h8, h⟩ := AtL.cons_ h
  obtain ⟨v9, r, rfl, h9, h⟩ := AtL.cons_ h
  obtain rfl := AtL.nil_ h
  simp only [T.At] at h0 h1 h2 h3 h4 h7 h8
  subst h0 h1 h2 h3 h4 h7 h8
  exact ⟨v5, v6, v9, rfl, h5, h6, h9⟩
theorem cells_mk {kd oc : Int} {f t u : ByteArray} {lo hi : List Int} {b op : Int} {ks : List QT} {vl vh vk : Value} (h1 : T.At sent w S (intsT .i64 lo) vl) (h2 : T.At sent w S (intsT .i64 hi) vh) (h3 : T.At sent w S (.arr 10 ks.length (cellsL ks)) vk) :
    T.AtL sent w S (cells (.mk kd oc f t u lo hi b op ks)) [.int .i64 kd, .int .i64 oc, .string f, .string t, .string u, vl, vh, .int .i64 b, .int .i64 op, vk] := by
  simp only [cells, T.AtL, T.At, true_and, and_true]
  exact ⟨h1, h2, h3⟩
/-- A row of integers in memory. -/
theorem at_ints {B : Nat} {k : IntKind} {l : List Int} {v : Value} (h : T.At sent w (fun g => g < B) (intsT k l) v) : ∃ A cap, v = .slice A l.length cap ∧ l.length ≤ cap ∧ cap ≤ maxLen ∧ Reads w B 1 A l.length (l.map (Value.int k)) := by
  obtain ⟨A, cap, vs, hv, h1, h2, h3, h4⟩ := At.reads h
  obtain rfl := AtL.lits h4
  exact ⟨A, cap, hv, h1, h2, h3⟩
/-- A row of queries in memory: element i's cells. -/
theorem at_kids {ks : List QT} {v : Value} (h : T.At sent w S (.arr 10 ks.length (cellsL ks)) v) :
    ∃ A cap, v = .slice A ks.length cap ∧ ks.length + (sent 10).length ≤ cap ∧ cap ≤ maxLen ∧ ∀ (i : Nat) (hi : i < ks.length), ∃ ad us, A = some ad ∧ S ad.block ∧ T.AtL sent w S (cells ks[i]) us ∧ us.length = 10 ∧ Cells w (ad.add (i * 10)) us := by
  simp only [T.At] at h
  obtain ⟨A, cap, vs, hv, hc, hm, hl, ha, hx⟩ := h
  refine ⟨A, cap, hv, hc, hm, fun i hi => ?_⟩
  obtain ⟨ad, e, hs, hcs⟩ := ha (by omega)
  rw [cellsL_eq] at hx
  obtain ⟨us, hul, hus, hj⟩ := AtL.elem cells_len hx i hi
  exact ⟨ad, us, e, hs, hus, hul, (hcs.left).elem hj hul⟩
end

section
variable {P : Program}
theorem bulk_mem {r : List T} : ∀ {rows : List (List T)}, r ∈ rows → T.bulkL r ≤ T.bulkL rows.flatten
  | [], h => by simp at h
  | x :: rows, h => by
    rw [List.flatten_cons, bulkL_append]
    rcases List.mem_cons.1 h with rfl | h
    · omega
    · have := bulk_mem h; omega
theorem list_of {α : Type} {f : α → List T} {C : α → Prop} : ∀ {rows : List (List T)}, (∀ r ∈ rows, ∃ a, r = f a ∧ C a) → ∃ l : List α, rows = l.map f ∧ ∀ a ∈ l, C a
  | [], _ => ⟨[], rfl, by simp⟩
  | r :: rows, h => by
    obtain ⟨a, rfl, ha⟩ := h r (by simp)
    obtain ⟨l, rfl, hl⟩ := list_of (rows := rows) fun r hr => h r (List.mem_cons_of_mem _ hr)
    exact ⟨a :: l, rfl, by simpa using ⟨ha, hl⟩⟩
theorem flat_one {k : IntKind} : ∀ l : List Int, l.flatMap (fun z => [T.lit (.int k z)]) = l.map fun z => T.lit (.int k z)
  | [] => rfl
  | z :: l => by rw [List.flatMap_cons, List.map_cons, flat_one l]; rfl
theorem ints_of {t e : TypeId} {k : IntKind} {ts : List T} (h : Typed P t ts) (ht : P.underlying t = some (.slice e)) (he : P.underlying e = some (.int k)) (hc : P.cellsOf e = 1) :
    ∃ l : List Int, ts = [intsT k l] ∧ l.length * P.bytesOf e ≤ 140737488351232 ∧ ∀ z ∈ l, (Lit.int k z).wf = true := by
  obtain ⟨rows, rfl, hr, _, hb, _⟩ := h.slice_inv ht
  obtain ⟨l, rfl, hl⟩ := list_of (f := fun z => [T.lit (.int k z)]) (C := fun z => (Lit.int k z).wf = true) (fun r hr' => by
    obtain ⟨n, h1, h2⟩ := (hr r hr').int_inv he
    exact ⟨n, h1, h2⟩)
  refine ⟨l, ?_, by simpa using hb, hl⟩
  rw [hc, List.length_map, intsT]
  congr 2
  rw [← List.flatMap_def]
  exact flat_one l
end

def qTypes : List TypeId := [25, 23, 22, 2, 3, 9]
theorem qFine : fineB Tryd.prog qTypes = true := by kernel_rfl
theorem i64_of {n : Int} (h : (Lit.int .i64 n).wf = true) : I64 n := Law.wf64 h
set_option maxRecDepth 100000 in
/-- Whatever is typed as a query is one. -/
theorem query_of : ∀ (n : Nat) (ts : List T), T.bulkL ts ≤ n → Typed Tryd.prog 25 ts → ∃ q, ts = cells q ∧ Ok q
  | n, ts, hn, h => by
    obtain ⟨parts, rfl, hl, hp⟩ := h.struct_inv Tryd.underlying25
    match parts, hl with
    | [p0, p1, p2, p3, p4, p5, p6, p7, p8, p9], _ =>
      obtain ⟨kd, rfl, w0⟩ := (hp 0 _ _ rfl rfl).int_inv Tryd.underlying3
      obtain ⟨oc, rfl, w1⟩ := (hp 1 _ _ rfl rfl).int_inv Tryd.underlying3
      obtain ⟨f, rfl, w2⟩ := (hp 2 _ _ rfl rfl).str_inv Tryd.underlying9
      obtain ⟨t, rfl, w3⟩ := (hp 3 _ _ rfl rfl).str_inv Tryd.underlying9
      obtain ⟨u, rfl, w4⟩ := (hp 4 _ _ rfl rfl).str_inv Tryd.underlying9
      obtain ⟨lo, rfl, b5, w5⟩ := ints_of (hp 5 _ _ rfl rfl) Tryd.underlying22 Tryd.underlying2 (by kernel_rfl)
      obtain ⟨hi, rfl, b6, w6⟩ := ints_of (hp 6 _ _ rfl rfl) Tryd.underlying22 Tryd.underlying2 (by kernel_rfl)
      obtain ⟨b, rfl, w7⟩ := (hp 7 _ _ rfl rfl).int_inv Tryd.underlying2
      obtain ⟨op, rfl, w8⟩ := (hp 8 _ _ rfl rfl).int_inv Tryd.underlying3
      obtain ⟨rows, rfl, hr, _, hb, _⟩ := (hp 9 _ _ rfl rfl).slice_inv Tryd.underlying23
      have hlt : T.bulkL rows.flatten < n := by
        simp only [List.flatten_cons, List.flatten_nil, bulkL_append, T.bulkL, T.bulk] at hn
        omega
      obtain ⟨ks, rfl, hk⟩ := list_of (f := cells) (C := Ok) (fun r hr' => query_of (n - 1) r (by have := bulk_mem hr'; omega) (hr r hr'))
      rw [List.length_map, show Tryd.prog.bytesOf 25 = 152 from by kernel_rfl] at hb
      rw [show Tryd.prog.bytesOf 2 = 8 from by kernel_rfl] at b5 b6
      refine ⟨.mk kd oc f t u lo hi b op ks, ?_, .mk (i64_of w0) (i64_of w1) w2 w3 w4 ⟨b5, fun z hz => i64_of (w5 z hz)⟩ ⟨b6, fun z hz => i64_of (w6 z hz)⟩ (i64_of w7) (i64_of w8) hb hk⟩
      rw [List.length_map, show Tryd.prog.cellsOf 25 = 10 from by kernel_rfl, cells, cellsL_eq, List.flatMap_def]
      rfl
  termination_by n => n
  decreasing_by omega
set_option maxRecDepth 100000 in
/-- An argument that is a query. -/
theorem open_query {H : Type} {enc : TypeId × Value → H} {w : World} {r : Reach} {b0 : Nat} {v : Value} {d : DataW H} {ps : List MemPlace} (hv : Value.okWide Tryd.prog w r b0 25 v)
    (h : DataW.Trod enc Tryd.prog w 0 (fun _ => true) true 25 v d ps) (hw : ∀ n ∈ d.weights Tryd.prog 25, n ≤ reachBytes) :
    ∃ q vs, v = .agg vs.toArray ∧ T.AtL bare w (fun g => g < w.heap.size) (cells q) vs ∧ Ok q ∧ T.bulkL (cells q) ≤ Rows.uptoBulk d := by
  obtain ⟨ts, vs, rfl, h1, h2, h3⟩ := open_struct qFine (by simp [qTypes]) Tryd.underlying25 hv h hw
  obtain ⟨q, rfl, hq⟩ := query_of _ ts (Nat.le_refl _) h2
  exact ⟨q, vs, rfl, h1, hq, h3⟩
end Go.Proofs.YtinmiekbhoemjaaDoor.Qry
end
