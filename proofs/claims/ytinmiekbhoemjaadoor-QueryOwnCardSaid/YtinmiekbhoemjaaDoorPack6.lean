/- Arguments opened, whatever their type (bools, integers, texts, slices and structs of them, nested as one likes): the data as trees in memory, typed; and how much they hold. Queries as plain Lean data. Queries as trees: their cells, what is known of them, and arguments opened as queries. -/
import Derived.Test.YtinmiekbhoemjaaDoorTree
import Derived.Test.YtinmiekbhoemjaaDoorRows
import Derived.SizedLaws
import Derived.ChangeArms
import Derived.Test.YtinmiekbhoemjaaDoorPack2
section
set_option linter.unusedVariables false
namespace Go.Proofs.YtinmiekbhoemjaaDoor.Tree
open Go.RowKit Go.WideShapes Go.ChangeShapes Words

/-- The trees of a value of a type. -/
inductive Typed (P : Program) : TypeId → List T → Prop where
  | bool {t : TypeId} (b : Bool) (h : P.underlying t = some .bool) : Typed P t [.lit (.bool b)]
  | int {t : TypeId} {k : IntKind} (n : Int) (h : P.underlying t = some (.int k)) (hw : (Lit.int k n).wf = true) : Typed P t [.lit (.int k n)]
  | str {t : TypeId} (s : ByteArray) (h : P.underlying t = some .string) (hs : s.size ≤ 140737488351232) : Typed P t [.lit (.string s)]
  | slice {t e : TypeId} (rows : List (List T)) (h : P.underlying t = some (.slice e)) (hr : ∀ r ∈ rows, Typed P e r) (hn : ∀ r ∈ rows, r.length = P.cellsOf e) (hb : rows.length * P.bytesOf e ≤ 140737488351232) (hm : rows.length ≤ maxLen) :
      Typed P t [.arr (P.cellsOf e) rows.length rows.flatten]
  | struct {t : TypeId} {fs : Array Field} (parts : List (List T)) (h : P.underlying t = some (.struct fs)) (hl : parts.length = fs.size) (hp : ∀ (i : Nat) (f : Field) (p : List T), fs[i]? = some f → parts[i]? = some p → Typed P f.type p) : Typed P t parts.flatten

section
variable {P : Program} {t e : TypeId} {ts : List T}
end

mutual
def T.bulk : T → Nat
  | .lit (.string s) => s.size + 1
  | .lit _ => 1
  | .arr _ _ xs => T.bulkL xs + 1
def T.bulkL : List T → Nat
  | [] => 0
  | t :: ts => T.bulk t + T.bulkL ts
end
theorem bulkL_append : ∀ l m : List T, T.bulkL (l ++ m) = T.bulkL l + T.bulkL m
  | [], m => by simp [T.bulkL]
  | t :: l, m => by simp only [List.cons_append, T.bulkL, bulkL_append l m]; omega

section
variable {P : Program} {w : World}
theorem Cells.append {ad : Addr} {l m : List Value} (h : Cells w ad l) (h' : Cells w (ad.add l.length) m) : Cells w ad (l ++ m) := fun j u hu => by
  rcases Nat.lt_or_ge j l.length with hj | hj
  · rw [List.getElem?_append_left hj] at hu; exact h j u hu
  · rw [List.getElem?_append_right hj] at hu
    have := h' _ u hu
    rwa [add_of_add, Nat.add_sub_cancel' hj] at this
theorem Cells.flatten {k : Nat} : ∀ {vss : List (List Value)} {ad : Addr}, (∀ (i : Nat) (v : List Value), vss[i]? = some v → v.length = k ∧ Cells w (ad.add (i * k)) v) → Cells w ad vss.flatten
  | [], _, _ => fun j u hu => by simp at hu
  | v :: vss, ad, h => by
    rw [List.flatten_cons]
    obtain ⟨h1, h2⟩ := h 0 v rfl
    refine Cells.append (by simpa [Addr.add] using h2) (Cells.flatten (k := k) fun i u hu => ?_)
    obtain ⟨h3, h4⟩ := h (i + 1) u hu
    refine ⟨h3, ?_⟩
    rw [add_of_add, h1, ← Nat.add_comm, ← Nat.succ_mul]; exact h4
theorem AtL.flatten {sent : Nat → List (List Value)} {S : Nat → Prop} : ∀ {rows : List (List T)} {vss : List (List Value)}, rows.length = vss.length → (∀ (i : Nat) (r : List T) (v : List Value), rows[i]? = some r → vss[i]? = some v → T.AtL sent w S r v) → T.AtL sent w S rows.flatten vss.flatten
  | [], [], _, _ => by simp [T.AtL]
  | r :: rows, v :: vss, hl, h => by
    rw [List.flatten_cons, List.flatten_cons]
    exact AtL.append (h 0 r v rfl rfl) (AtL.flatten (by simpa using hl) fun i => h (i + 1))
  | [], _ :: _, hl, _ => by simp at hl
  | _ :: _, [], hl, _ => by simp at hl
variable {H : Type} {enc : TypeId × Value → H}
end
end Go.Proofs.YtinmiekbhoemjaaDoor.Tree
end
section
namespace QryP
open Go
/-- A query. -/
inductive QT where
  | mk (kind occur : Int) (field text upto : ByteArray) (low high : List Int) (boost op : Int) (kids : List QT)
/-- How great a query is: more than its parts. -/
noncomputable def QT.sz (q : QT) : Nat := SizeOf.sizeOf q
theorem QT.sz_pos (q : QT) : 0 < q.sz := by cases q; simp only [QT.sz, QT.mk.sizeOf_spec]; omega
theorem QT.sz_kid {kd oc : Int} {f t u : ByteArray} {lo hi : List Int} {b op : Int} {ks : List QT} {k : QT} (h : k ∈ ks) : k.sz < (QT.mk kd oc f t u lo hi b op ks).sz := by
  have := List.sizeOf_lt_of_mem h
  simp only [QT.sz, QT.mk.sizeOf_spec]
  omega
end QryP
end
section
set_option linter.unusedVariables false
namespace Go.Proofs.YtinmiekbhoemjaaDoor.Qry
open Go.RowKit Go.WideShapes Go.ChangeShapes Words Tree QryP

/-- A row of integers as a tree. -/
def intsT (k : IntKind) (l : List Int) : T := .arr 1 l.length (l.map fun z => .lit (.int k z))
mutual
def cells : QT → List T
  | .mk kd oc f t u lo hi b op ks => [.lit (.int .i64 kd), .lit (.int .i64 oc), .lit (.string f), .lit (.string t), .lit (.string u), intsT .i64 lo, intsT .i64 hi, .lit (.int .i64 b), .lit (.int .i64 op), .arr 10 ks.length (cellsL ks)]
def cellsL : List QT → List T
  | [] => []
  | q :: qs => cells q ++ cellsL qs
end
theorem cellsL_eq : ∀ qs : List QT, cellsL qs = qs.flatMap cells
  | [] => by simp [cellsL]
  | q :: qs => by rw [cellsL, cellsL_eq qs, List.flatMap_cons]
theorem cells_len (q : QT) : (cells q).length = 10 := by cases q; simp [cells]
theorem cellsL_len (qs : List QT) : (cellsL qs).length = qs.length * 10 := by rw [cellsL_eq]; exact flatMap_len cells cells_len qs

/-- In the machine's range. -/
def I64 (n : Int) : Prop := -9223372036854775808 ≤ n ∧ n ≤ 9223372036854775807
/-- What is known of a query that came in. -/
inductive Ok : QT → Prop where
  | mk {kd oc : Int} {f t u : ByteArray} {lo hi : List Int} {b op : Int} {ks : List QT} (hkd : I64 kd) (hoc : I64 oc) (hf : f.size ≤ 140737488351232) (ht : t.size ≤ 140737488351232) (hu : u.size ≤ 140737488351232)
      (hlo : lo.length * 8 ≤ 140737488351232 ∧ ∀ z ∈ lo, I64 z) (hhi : hi.length * 8 ≤ 140737488351232 ∧ ∀ z ∈ hi, I64 z) (hb : I64 b) (hop : I64 op) (hks : ks.length * 152 ≤ 140737488351232) (hk : ∀ k ∈ ks, Ok k) : Ok (.mk kd oc f t u lo hi b op ks)

section
variable {sent : Nat → List (List Value)} {w : World} {S : Nat → Prop}
/-- The cells of a query in memory. -/
theorem at_cells {kd oc : Int} {f t u : ByteArray} {lo hi : List Int} {b op : Int} {ks : List QT} {vs : List Value} (h : T.AtL sent w S (cells (.mk kd oc f t u lo hi b op ks)) vs) :
    ∃ vl vh vk, vs = [.int .i64 kd, .int .i64 oc, .string f, .string t, .string u, vl, vh, .int .i64 b, .int .i64 op, vk] ∧ T.At sent w S (intsT .i64 lo) vl ∧ T.At sent w S (intsT .i64 hi) vh ∧ T.At sent w S (.arr 10 ks.length (cellsL ks)) vk := by
  rw [cells] at h
  obtain ⟨v0, r, rfl, h0, h⟩ := AtL.cons_ h
  obtain ⟨v1, r, rfl, h1, h⟩ := AtL.cons_ h
  obtain ⟨v2, r, rfl, h2, h⟩ := AtL.cons_ h
  obtain ⟨v3, r, rfl, h3, h⟩ := AtL.cons_ h
  obtain ⟨v4, r, rfl, h4, h⟩ := AtL.cons_ h
  obtain ⟨v5, r, rfl, h5, h⟩ := AtL.cons_ h
  obtain ⟨v6, r, rfl, h6, h⟩ := AtL.cons_ h
  obtain ⟨v7, r, rfl, h7, h⟩ := AtL.cons_ h
  obtain ⟨v8, r, rfl, h8, h⟩ := AtL.cons_ h
  obtain ⟨v9, r, rfl, h9, h⟩ := AtL.cons_ h
  obtain rfl := AtL.nil_ h
  simp only [T.At] at h0 h1 h2 h3 h4 h7 h8
  subst h0 h1 h2 h3 h4 h7 h8
  exact ⟨v5, v6, v9, rfl, h5, h6, h9⟩
theorem cells_mk {kd oc : Int} {f t u : ByteArray} {lo hi : List Int} {b op : Int} {ks : List QT} {vl vh vk : Value} (h1 : T.At sent w S (intsT .i64 lo) vl) (h2 : T.At sent w S (intsT .i64 hi) vh) (h3 : T.At sent w S (.arr 10 ks.length (cellsL ks)) vk) :
    T.AtL sent w S (cells (.mk kd oc f t u lo hi b op ks)) [.int .i64 kd, .int .i64 oc, .string f, .string t, .string u, vl, vh, .int .i64 b, .int .i64 op, vk] := by
  simp only [cells, T.AtL, T.At, true_and, and_true]
  exact ⟨h1, h2, h3⟩
/-- A row of integers in memory. -/
theorem at_ints {B : Nat} {k : IntKind} {l : List Int} {v : Value} (h : T.At sent w (fun g => g < B) (intsT k l) v) : ∃ A cap, v = .slice A l.length cap ∧ l.length ≤ cap ∧ cap ≤ maxLen ∧ Reads w B 1 A l.length (l.map (Value.int k)) := by
  obtain ⟨A, cap, vs, hv, h1, h2, h3, h4⟩ := At.reads h
  obtain rfl := AtL.lits h4
  exact ⟨A, cap, hv, h1, h2, h3⟩
/-- A row of queries in memory: element i's cells. -/
theorem at_kids {ks : List QT} {v : Value} (h : T.At sent w S (.arr 10 ks.length (cellsL ks)) v) :
    ∃ A cap, v = .slice A ks.length cap ∧ ks.length + (sent 10).length ≤ cap ∧ cap ≤ maxLen ∧ ∀ (i : Nat) (hi : i < ks.length), ∃ ad us, A = some ad ∧ S ad.block ∧ T.AtL sent w S (cells ks[i]) us ∧ us.length = 10 ∧ Cells w (ad.add (i * 10)) us := by
  simp only [T.At] at h
  obtain ⟨A, cap, vs, hv, hc, hm, hl, ha, hx⟩ := h
  refine ⟨A, cap, hv, hc, hm, fun i hi => ?_⟩
  obtain ⟨ad, e, hs, hcs⟩ := ha (by omega)
  rw [cellsL_eq] at hx
  obtain ⟨us, hul, hus, hj⟩ := AtL.elem cells_len hx i hi
  exact ⟨ad, us, e, hs, hus, hul, (hcs.left).elem hj hul⟩
end

section
variable {P : Program}
end

end Go.Proofs.YtinmiekbhoemjaaDoor.Qry
end
