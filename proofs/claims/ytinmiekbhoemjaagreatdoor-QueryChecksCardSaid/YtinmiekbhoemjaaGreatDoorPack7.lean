/- Queries as trees: their cells, what is known of them, and arguments opened as queries. Small laws of rows that a call owns: across a call that only makes memory; two rows of different elements. Rows of structs as trees: their elements in memory, their marks, and a row that is lent (built anew, element by element, with a mark behind it). Over any program. -/
import Derived.Test.YtinmiekbhoemjaaGreatDoorOpen
import Derived.Test.YtinmiekbhoemjaaGreatDoorPack1
section
set_option linter.unusedVariables false
namespace Go.Proofs.YtinmiekbhoemjaaGreatDoor.Qry
open Go.RowKit Go.WideShapes Go.ChangeShapes Words Tree QryP

/-- A row of integers as a tree. -/
def intsT (k : IntKind) (l : List Int) : T := .arr 1 l.length (l.map fun z => .lit (.int k z))
mutual
def cells : QT → List T
  | .mk kd oc f t u lo hi b op ks => [.lit (.int .i64 kd), .lit (.int .i64 oc), .lit (.string f), .lit (.string t), .lit (.string u), intsT .i64 lo, intsT .i64 hi, .lit (.int .i64 b), .lit (.int .i64 op), .arr 10 ks.length (cellsL ks)]
def cellsL : List QT → List T
  | [] => []
  | q :: qs => cells q ++ cellsL qs
end
theorem cellsL_eq : ∀ qs : List QT, cellsL qs = qs.flatMap cells
  | [] => by simp [cellsL]
  | q :: qs => by rw [cellsL, cellsL_eq qs, List.flatMap_cons]
theorem cells_len (q : QT) : (cells q).length = 10 := by cases q; simp [cells]
theorem cellsL_len (qs : List QT) : (cellsL qs).length = qs.length * 10 := by rw [cellsL_eq]; exact flatMap_len cells cells_len qs

/-- In the machine's range. -/
def I64 (n : Int) : Prop := -9223372036854775808 ≤ n ∧ n ≤ 9223372036854775807
/-- What is known of a query that came in. -/
inductive Ok : QT → Prop where
  | mk {kd oc : Int} {f t u : ByteArray} {lo hi : List Int} {b op : Int} {ks : List QT} (hkd : I64 kd) (hoc : I64 oc) (hf : f.size ≤ 140737488351232) (ht : t.size ≤ 140737488351232) (hu : u.size ≤ 140737488351232)
      (hlo : lo.length * 8 ≤ 140737488351232 ∧ ∀ z ∈ lo, I64 z) (hhi : hi.length * 8 ≤ 140737488351232 ∧ ∀ z ∈ hi, I64 z) (hb : I64 b) (hop : I64 op) (hks : ks.length * 152 ≤ 140737488351232) (hk : ∀ k ∈ ks, Ok k) : Ok (.mk kd oc f t u lo hi b op ks)

section
variable {sent : Nat → List (List Value)} {w : World} {S : Nat → Prop}
/-- The cells of a query in memory. -/
theorem at_cells {kd oc : Int} {f t u : ByteArray} {lo hi : List Int} {b op : Int} {ks : List QT} {vs : List Value} (h : T.AtL sent w S (cells (.mk kd oc f t u lo hi b op ks)) vs) :
    ∃ vl vh vk, vs = [.int .i64 kd, .int .i64 oc, .string f, .string t, .string u, vl, vh, .int .i64 b, .int .i64 op, vk] ∧ T.At sent w S (intsT .i64 lo) vl ∧ T.At sent w S (intsT .i64 hi) vh ∧ T.At sent w S (.arr 10 ks.length (cellsL ks)) vk := by
  rw [cells] at h
  obtain ⟨v0, r, rfl, h0, h⟩ := AtL.cons_ h
  obtain ⟨v1, r, rfl, h1, h⟩ := AtL.cons_ h
  obtain ⟨v2, r, rfl, h2, h⟩ := AtL.cons_ h
  obtain ⟨v3, r, rfl, h3, h⟩ := AtL.cons_ h
  obtain ⟨v4, r, rfl, h4, h⟩ := AtL.cons_ h
  obtain ⟨v5, r, rfl, h5, h⟩ := AtL.cons_ h
  obtain ⟨v6, r, rfl, h6, h⟩ := AtL.cons_ h
  obtain ⟨v7, r, rfl, h7, h⟩ := AtL.cons_ h
  obtain ⟨v8, r, rfl, h8, h⟩ := AtL.cons_ h
  obtain ⟨v9, r, rfl, h9, h⟩ := AtL.cons_ h
  obtain rfl := AtL.nil_ h
  simp only [T.At] at h0 h1 h2 h3 h4 h7 h8
  subst h0 h1 h2 h3 h4 h7 h8
  exact ⟨v5, v6, v9, rfl, h5, h6, h9⟩
theorem cells_mk {kd oc : Int} {f t u : ByteArray} {lo hi : List Int} {b op : Int} {ks : List QT} {vl vh vk : Value} (h1 : T.At sent w S (intsT .i64 lo) vl) (h2 : T.At sent w S (intsT .i64 hi) vh) (h3 : T.At sent w S (.arr 10 ks.length (cellsL ks)) vk) :
    T.AtL sent w S (cells (.mk kd oc f t u lo hi b op ks)) [.int .i64 kd, .int .i64 oc, .string f, .string t, .string u, vl, vh, .int .i64 b, .int .i64 op, vk] := by
  simp only [cells, T.AtL, T.At, true_and, and_true]
  exact ⟨h1, h2, h3⟩
/-- A row of integers in memory. -/
theorem at_ints {B : Nat} {k : IntKind} {l : List Int} {v : Value} (h : T.At sent w (fun g => g < B) (intsT k l) v) : ∃ A cap, v = .slice A l.length cap ∧ l.length ≤ cap ∧ cap ≤ maxLen ∧ Reads w B 1 A l.length (l.map (Value.int k)) := by
  obtain ⟨A, cap, vs, hv, h1, h2, h3, h4⟩ := At.reads h
  obtain rfl := AtL.lits h4
  exact ⟨A, cap, hv, h1, h2, h3⟩
/-- A row of queries in memory: element i's cells. -/
theorem at_kids {ks : List QT} {v : Value} (h : T.At sent w S (.arr 10 ks.length (cellsL ks)) v) :
    ∃ A cap, v = .slice A ks.length cap ∧ ks.length + (sent 10).length ≤ cap ∧ cap ≤ maxLen ∧ ∀ (i : Nat) (hi : i < ks.length), ∃ ad us, A = some ad ∧ S ad.block ∧ T.AtL sent w S (cells ks[i]) us ∧ us.length = 10 ∧ Cells w (ad.add (i * 10)) us := by
  simp only [T.At] at h
  obtain ⟨A, cap, vs, hv, hc, hm, hl, ha, hx⟩ := h
  refine ⟨A, cap, hv, hc, hm, fun i hi => ?_⟩
  obtain ⟨ad, e, hs, hcs⟩ := ha (by omega)
  rw [cellsL_eq] at hx
  obtain ⟨us, hul, hus, hj⟩ := AtL.elem cells_len hx i hi
  exact ⟨ad, us, e, hs, hus, hul, (hcs.left).elem hj hul⟩
end

section
variable {P : Program}
theorem bulk_mem {r : List T} : ∀ {rows : List (List T)}, r ∈ rows → T.bulkL r ≤ T.bulkL rows.flatten
  | [], h => by simp at h
  | x :: rows, h => by
    rw [List.flatten_cons, bulkL_append]
    rcases List.mem_cons.1 h with rfl | h
    · omega
    · have := bulk_mem h; omega
theorem list_of {α : Type} {f : α → List T} {C : α → Prop} : ∀ {rows : List (List T)}, (∀ r ∈ rows, ∃ a, r = f a ∧ C a) → ∃ l : List α, rows = l.map f ∧ ∀ a ∈ l, C a
  | [], _ => ⟨[], rfl, by simp⟩
  | r :: rows, h => by
    obtain ⟨a, rfl, ha⟩ := h r (by simp)
    obtain ⟨l, rfl, hl⟩ := list_of (rows := rows) fun r hr => h r (List.mem_cons_of_mem _ hr)
    exact ⟨a :: l, rfl, by simpa using ⟨ha, hl⟩⟩
theorem flat_one {k : IntKind} : ∀ l : List Int, l.flatMap (fun z => [T.lit (.int k z)]) = l.map fun z => T.lit (.int k z)
  | [] => rfl
  | z :: l => by rw [List.flatMap_cons, List.map_cons, flat_one l]; rfl
theorem ints_of {t e : TypeId} {k : IntKind} {ts : List T} (h : Typed P t ts) (ht : P.underlying t = some (.slice e)) (he : P.underlying e = some (.int k)) (hc : P.cellsOf e = 1) :
    ∃ l : List Int, ts = [intsT k l] ∧ l.length * P.bytesOf e ≤ 140737488351232 ∧ ∀ z ∈ l, (Lit.int k z).wf = true := by
  obtain ⟨rows, rfl, hr, _, hb, _⟩ := h.slice_inv ht
  obtain ⟨l, rfl, hl⟩ := list_of (f := fun z => [T.lit (.int k z)]) (C := fun z => (Lit.int k z).wf = true) (fun r hr' => by
    obtain ⟨n, h1, h2⟩ := (hr r hr').int_inv he
    exact ⟨n, h1, h2⟩)
  refine ⟨l, ?_, by simpa using hb, hl⟩
  rw [hc, List.length_map, intsT]
  congr 2
  rw [← List.flatMap_def]
  exact flat_one l
end

theorem i64_of {n : Int} (h : (Lit.int .i64 n).wf = true) : I64 n := Law.wf64 h
set_option maxRecDepth 100000 in
/-- Whatever is typed as a query is one. -/
theorem query_of : ∀ (n : Nat) (ts : List T), T.bulkL ts ≤ n → Typed Tryz.prog 28 ts → ∃ q, ts = cells q ∧ Ok q
  | n, ts, hn, h => by
    obtain ⟨parts, rfl, hl, hp⟩ := h.struct_inv Tryz.underlying28
    match parts, hl with
    | [p0, p1, p2, p3, p4, p5, p6, p7, p8, p9], _ =>
      obtain ⟨kd, rfl, w0⟩ := (hp 0 _ _ rfl rfl).int_inv Tryz.underlying3
      obtain ⟨oc, rfl, w1⟩ := (hp 1 _ _ rfl rfl).int_inv Tryz.underlying3
      obtain ⟨f, rfl, w2⟩ := (hp 2 _ _ rfl rfl).str_inv Tryz.underlying9
      obtain ⟨t, rfl, w3⟩ := (hp 3 _ _ rfl rfl).str_inv Tryz.underlying9
      obtain ⟨u, rfl, w4⟩ := (hp 4 _ _ rfl rfl).str_inv Tryz.underlying9
      obtain ⟨lo, rfl, b5, w5⟩ := ints_of (hp 5 _ _ rfl rfl) Tryz.underlying25 Tryz.underlying2 (by kernel_rfl)
      obtain ⟨hi, rfl, b6, w6⟩ := ints_of (hp 6 _ _ rfl rfl) Tryz.underlying25 Tryz.underlying2 (by kernel_rfl)
      obtain ⟨b, rfl, w7⟩ := (hp 7 _ _ rfl rfl).int_inv Tryz.underlying2
      obtain ⟨op, rfl, w8⟩ := (hp 8 _ _ rfl rfl).int_inv Tryz.underlying3
      obtain ⟨rows, rfl, hr, _, hb, _⟩ := (hp 9 _ _ rfl rfl).slice_inv Tryz.underlying26
      have hlt : T.bulkL rows.flatten < n := by
        simp only [List.flatten_cons, List.flatten_nil, bulkL_append, T.bulkL, T.bulk] at hn
        omega
      obtain ⟨ks, rfl, hk⟩ := list_of (f := cells) (C := Ok) (fun r hr' => query_of (n - 1) r (by have := bulk_mem hr'; omega) (hr r hr'))
      rw [List.length_map, show Tryz.prog.bytesOf 28 = 152 from by kernel_rfl] at hb
      rw [show Tryz.prog.bytesOf 2 = 8 from by kernel_rfl] at b5 b6
      refine ⟨.mk kd oc f t u lo hi b op ks, ?_, .mk (i64_of w0) (i64_of w1) w2 w3 w4 ⟨b5, fun z hz => i64_of (w5 z hz)⟩ ⟨b6, fun z hz => i64_of (w6 z hz)⟩ (i64_of w7) (i64_of w8) hb hk⟩
      rw [List.length_map, show Tryz.prog.cellsOf 28 = 10 from by kernel_rfl, cells, cellsL_eq, List.flatMap_def]
      rfl
  termination_by n => n
  decreasing_by omega
end Go.Proofs.YtinmiekbhoemjaaGreatDoor.Qry
end
section
namespace Go.Proofs.YtinmiekbhoemjaaGreatDoor.Owned
open Go.RowKit Kit Words

/-- Two rows of different elements never share a block. -/
theorem own_own_ne {w : World} {B B' n n' m m' : Nat} {e e' : TypeId} {v v' : Value} {xs xs' : List Value} (h : w.ownsRow B e m v n xs) (h' : w.ownsRow B' e' m' v' n' xs') (hne : e ≠ e') : v.ownBlock = none ∨ v.ownBlock ≠ v'.ownBlock := by
  rcases h.2 with ⟨rfl, _⟩ | ⟨g, cap, cur, rfl, _, hg, _⟩
  · exact .inl rfl
  · right
    rcases h'.2 with ⟨rfl, _⟩ | ⟨g', cap', cur', rfl, _, hg', _⟩
    · simp [Value.ownBlock]
    · intro hh
      simp only [Value.ownBlock, Option.some.injEq] at hh
      subst hh
      rw [hg] at hg'
      injection hg' with hg'
      injection hg' with _ ht
      exact hne ht
theorem own_below {w w' : World} {B n m : Nat} {e : TypeId} {v : Value} {xs : List Value} (h : w.ownsRow B e m v n xs) (hb : Below w.heap.size w w') : w'.ownsRow B e m v n xs :=
  h.kept (only_of_below hb none) (by cases hv : v.ownBlock <;> simp)
theorem own_drewN {w : World} {B n m : Nat} {e : TypeId} {v : Value} {xs : List Value} (h : w.ownsRow B e m v n xs) (k : Nat) : (w.drewN k).ownsRow B e m v n xs := h
/-- A row of the call's own that holds an element is a slice at a block's head. -/
theorem own_form {w : World} {B n : Nat} {e : TypeId} {v : Value} {xs : List Value} (h : w.ownsRow B e 1 v n xs) : (v = .slice none 0 0 ∧ n = 0) ∨ ∃ g cap, v = .slice (some ⟨g, 0, none⟩) n cap ∧ B ≤ g ∧ g < w.heap.size := by
  rcases h.2 with ⟨rfl, h0⟩ | ⟨g, cap, cur, rfl, hb, hg, _⟩
  · exact .inl ⟨rfl, h0⟩
  · exact .inr ⟨g, cap, rfl, hb, (Array.getElem?_eq_some_iff.1 hg).1⟩
/-- Its length and capacity are written out, whatever its address. -/
theorem own_slice {w : World} {B n : Nat} {e : TypeId} {v : Value} {xs : List Value} (h : w.ownsRow B e 1 v n xs) : ∃ ao cap, v = .slice ao n cap := by
  rcases h.2 with ⟨rfl, h0⟩ | ⟨g, cap, cur, rfl, _⟩
  · exact ⟨none, 0, by rw [h0]⟩
  · exact ⟨_, _, rfl⟩
theorem own_cell {w : World} {B n : Nat} {e : TypeId} {ao : Option Addr} {cap : Nat} {xs : List Value} (h : w.ownsRow B e 1 (.slice ao n cap) n xs) {i : Nat} (hi : i < n) : ∃ g, ao = some ⟨g, 0, none⟩ ∧ B ≤ g ∧ g < w.heap.size ∧ ∀ j u, xs[j]? = some u → w.cell? ⟨g, j, none⟩ = some u := by
  rcases h.2 with ⟨hv, h0⟩ | ⟨g, cap', cur, hv, hb, hg, _⟩
  · omega
  · injection hv with ha _ _
    refine ⟨g, ha, hb, (Array.getElem?_eq_some_iff.1 hg).1, fun j u hu => ?_⟩
    have := h.cells (g := g) (by rw [ha]; rfl) j u hu
    have hadd : (⟨g, 0, none⟩ : Addr).add j = ⟨g, j, none⟩ := by unfold Addr.add; split <;> simp_all
    rwa [hadd] at this
/-- A row of the call's own is kept where a block that is no cells turns. -/
theorem own_cells_kept {w w' : World} {B n m : Nat} {e : TypeId} {v : Value} {xs : List Value} {row : Option Nat} (h : w.ownsRow B e m v n xs) (hg : w.grownBy w' row) (hr : ∀ r, row = some r → ∃ o : Obj, w.heap[r]? = some o ∧ (∀ c t fz, o ≠ .cells c t fz)) : w'.ownsRow B e m v n xs := by
  refine h.kept hg ?_
  rcases h.2 with ⟨rfl, _⟩ | ⟨g, cap, cur, rfl, _, hh, _⟩
  · exact .inl rfl
  · refine .inr (fun e => ?_)
    obtain ⟨o, ho, hc⟩ := hr g e.symm
    rw [hh] at ho
    exact hc _ _ _ (Option.some.inj ho).symm
theorem own_setCell_ne {w : World} {B n m : Nat} {e : TypeId} {v : Value} {xs : List Value} (h : w.ownsRow B e m v n xs) {a : Addr} (ha : v.ownBlock ≠ some a.block) (u : Value) : (w.setCell a u).ownsRow B e m v n xs := by
  refine h.kept (row := some a.block) ⟨rfl, rfl, rfl, by simp [World.setCell], fun k _ hk => Below.heap_setCell _ _ _ _ (fun e => hk (by rw [e]))⟩ (.inr ha)
end Go.Proofs.YtinmiekbhoemjaaGreatDoor.Owned
end
section
set_option linter.unusedVariables false
namespace Go.Proofs.YtinmiekbhoemjaaGreatDoor.Tree
open Go.RowKit Go.WideShapes Go.ChangeShapes Words Owned

/-- A row of integers as a tree. -/
def numsT (k : IntKind) (l : List Int) : T := .arr 1 l.length (l.map fun z => .lit (.int k z))
/-- A row of structs as a tree. -/
def rowT {X : Type} (s : Nat) (f : X → List T) (xs : List X) : T := .arr s xs.length (xs.flatMap f)

section
variable {sent : Nat → List (List Value)} {w : World} {S : Nat → Prop} {X : Type} {f : X → List T} {s : Nat}
theorem at_nums {B : Nat} {k : IntKind} {l : List Int} {v : Value} (h : T.At sent w (fun g => g < B) (numsT k l) v) : ∃ A cap, v = .slice A l.length cap ∧ l.length ≤ cap ∧ cap ≤ maxLen ∧ Reads w B 1 A l.length (l.map (Value.int k)) := by
  obtain ⟨A, cap, vs, hv, h1, h2, h3, h4⟩ := At.reads h
  obtain rfl := AtL.lits h4
  exact ⟨A, cap, hv, h1, h2, h3⟩
theorem at_slice {n : Nat} {xs : List T} {v : Value} (h : T.At sent w S (.arr s n xs) v) : ∃ A cap, v = .slice A n cap ∧ n + (sent s).length ≤ cap ∧ cap ≤ maxLen := by
  simp only [T.At] at h
  obtain ⟨A, cap, _, hv, h1, h2, _⟩ := h
  exact ⟨A, cap, hv, h1, h2⟩
/-- A row of structs in memory: element i's cells. -/
theorem at_row (hf : ∀ x, (f x).length = s) {xs : List X} {v : Value} (h : T.At sent w S (rowT s f xs) v) :
    ∃ A cap, v = .slice A xs.length cap ∧ xs.length + (sent s).length ≤ cap ∧ cap ≤ maxLen ∧ ∀ (i : Nat) (hi : i < xs.length), ∃ ad us, A = some ad ∧ S ad.block ∧ T.AtL sent w S (f xs[i]) us ∧ us.length = s ∧ Cells w (ad.add (i * s)) us := by
  simp only [rowT, T.At] at h
  obtain ⟨A, cap, vs, hv, hc, hm, hl, ha, hx⟩ := h
  refine ⟨A, cap, hv, hc, hm, fun i hi => ?_⟩
  obtain ⟨ad, e, hs, hcs⟩ := ha (by omega)
  obtain ⟨us, hul, hus, hj⟩ := AtL.elem hf hx i hi
  exact ⟨ad, us, e, hs, hus, hul, (hcs.left).elem hj hul⟩
/-- And with a mark behind it. -/
theorem at_row_mark (hf : ∀ x, (f x).length = s) {mark : List Value} (hm : sent s = [mark]) {xs : List X} {v : Value} (h : T.At sent w S (rowT s f xs) v) :
    ∃ ad cap, v = .slice (some ad) xs.length cap ∧ xs.length + 1 ≤ cap ∧ cap ≤ maxLen ∧ S ad.block ∧ Cells w (ad.add (xs.length * s)) mark ∧
      ∀ (i : Nat) (hi : i < xs.length), ∃ us, T.AtL sent w S (f xs[i]) us ∧ us.length = s ∧ Cells w (ad.add (i * s)) us := by
  simp only [rowT, T.At] at h
  obtain ⟨A, cap, vs, hv, hc, hm', hl, ha, hx⟩ := h
  rw [hm] at hc ha
  obtain ⟨ad, rfl, hs, hcs⟩ := ha (by simp)
  refine ⟨ad, cap, hv, hc, hm', hs, ?_, fun i hi => ?_⟩
  · have := hcs.right
    rw [AtL.length hx, flatMap_len f hf] at this
    simpa using this
  · obtain ⟨us, hul, hus, hj⟩ := AtL.elem hf hx i hi
    exact ⟨us, hus, hul, (hcs.left).elem hj hul⟩
theorem at_nums_mark {k : IntKind} {u : Value} (hm : sent 1 = [[u]]) {l : List Int} {v : Value} (h : T.At sent w S (numsT k l) v) :
    ∃ ad cap, v = .slice (some ad) l.length cap ∧ l.length + 1 ≤ cap ∧ cap ≤ maxLen ∧ S ad.block ∧ w.cell? (ad.add l.length) = some u := by
  simp only [numsT, T.At] at h
  obtain ⟨A, cap, vs, hv, hc, hm', hl, ha, hx⟩ := h
  rw [hm] at hc ha
  obtain ⟨ad, rfl, hs, hcs⟩ := ha (by simp)
  obtain rfl := AtL.lits hx
  refine ⟨ad, cap, hv, hc, hm', hs, ?_⟩
  have := hcs.right.zero
  rwa [List.length_map] at this

/-! ### A row that is lent -/
/-- What a loop that lends a row knows: k elements are laid, in a row of its own, their parts beside it. -/
def LentRow (sent : Nat → List (List Value)) (et : TypeId) (s : Nat) (f : X → List T) (W wr : World) (v : Value) (xs : List X) (k : Nat) : Prop :=
  ∃ cs, wr.ownsRow W.heap.size et s v k cs ∧ T.AtL sent wr (fun g => W.heap.size ≤ g ∧ g < wr.heap.size ∧ v.ownBlock ≠ some g) ((xs.take k).flatMap f) cs ∧ Below W.heap.size W wr
theorem lentRow_zero (et : TypeId) (W : World) (xs : List X) : LentRow sent et s f W W (.slice none 0 0) xs 0 := ⟨[], World.ownsRow_nil _ _ _ _, by simp [T.AtL], Below.refl _ _⟩
theorem lentRow_step {et : TypeId} {W wr w3 w4 : World} {v v' : Value} {xs : List X} {k : Nat} {us cs : List Value} (hk : k < xs.length)
    (hx : wr.ownsRow W.heap.size et s v k cs) (ha : T.AtL sent wr (fun g => W.heap.size ≤ g ∧ g < wr.heap.size ∧ v.ownBlock ≠ some g) ((xs.take k).flatMap f) cs) (hB : Below W.heap.size W wr)
    (hu : T.AtL sent w3 (fun g => wr.heap.size ≤ g ∧ g < w3.heap.size) (f xs[k]) us) (hb : Below wr.heap.size wr w3)
    (ho : w4.ownsRow W.heap.size et s v' (k + 1) (cs ++ us)) (hg : w3.grownBy w4 v.ownBlock) (hv : v'.ownBlock = v.ownBlock ∨ v'.ownBlock = some w3.heap.size) : LentRow sent et s f W w4 v' xs (k + 1) := by
  have hlt : ∀ r, v.ownBlock = some r → r < wr.heap.size := fun r e => (hx.lt r e).2
  have hz3 := hb.size
  have hz4 := hg.size
  have hbl : ∀ p : Addr, p.block < w3.heap.size → v.ownBlock ≠ some p.block → w4.cell? p = w3.cell? p := fun p hp hne =>
    World.cell?_of_block (hg.block p.block hp (fun e => hne e.symm))
  refine ⟨cs ++ us, ho, ?_, ?_⟩
  · rw [List.take_succ_eq_append_getElem hk, List.flatMap_append, List.flatMap_singleton]
    refine AtL.append (AtL.keep (fun p hp => ?_) (fun g hg' => ?_) ha) (AtL.keep (fun p hp => ?_) (fun g hg' => ?_) hu)
    · exact (hbl p (by omega) hp.2.2).trans (hb.cell hp.2.1)
    · refine ⟨hg'.1, by omega, ?_⟩
      rcases hv with hv | hv <;> rw [hv]
      · exact hg'.2.2
      · intro e; injection e with e; omega
    · exact hbl p hp.2 (fun e => by have := hlt _ e; omega)
    · refine ⟨by have := hB.size; omega, by omega, ?_⟩
      rcases hv with hv | hv <;> rw [hv]
      · intro e; have := hlt _ e; omega
      · intro e; injection e with e; omega
  · exact (hB.trans (hb.mono hB.size)).grown hg (by have := hB.size; omega) (fun r e => (hx.lt r e).1)
/-- The row with the mark behind it. -/
theorem lentRow_end (hf : ∀ x, (f x).length = s) {mark : List Value} (hmk : sent s = [mark]) {et : TypeId} {W wr w3 w4 : World} {v : Value} {xs : List X} {cs : List Value} {g cap : Nat}
    (hx : wr.ownsRow W.heap.size et s v xs.length cs) (ha : T.AtL sent wr (fun g => W.heap.size ≤ g ∧ g < wr.heap.size ∧ v.ownBlock ≠ some g) ((xs.take xs.length).flatMap f) cs) (hB : Below W.heap.size W wr) (hb : Below wr.heap.size wr w3)
    (ho : w4.ownsRow W.heap.size et s (.slice (some ⟨g, 0, none⟩) (xs.length + 1) cap) (xs.length + 1) (cs ++ mark)) (hcap : xs.length + 1 ≤ cap) (hm : cap ≤ maxLen) (hg : w3.grownBy w4 v.ownBlock) :
    T.At sent w4 (fun g => W.heap.size ≤ g ∧ g < w4.heap.size) (rowT s f xs) (.slice (some ⟨g, 0, none⟩) xs.length cap) ∧ Below W.heap.size W w4 := by
  have hz3 := hb.size
  have hz4 := hg.size
  have hlt := ho.lt g rfl
  refine ⟨?_, (hB.trans (hb.mono hB.size)).grown hg (by have := hB.size; omega) (fun r e => (hx.lt r e).1)⟩
  simp only [rowT, T.At]
  rw [List.take_length] at ha
  refine ⟨_, cap, cs, rfl, by rw [hmk]; simpa using hcap, hm, flatMap_len f hf xs, fun _ => ⟨_, rfl, hlt, ?_⟩, AtL.keep (fun p hp => ?_) (fun g' hg' => ⟨hg'.1, by omega⟩) ha⟩
  · rw [hmk]
    simp only [List.flatten_cons, List.flatten_nil, List.append_nil]
    exact ho.cells (g := g) rfl
  · exact (World.cell?_of_block (hg.block p.block (by omega) (fun e => hp.2.2 e.symm))).trans (hb.cell hp.2.1)
end

section
variable {P : Program}
theorem flatL_mem {r : List T} : ∀ {rows : List (List T)}, r ∈ rows → T.bulkL r ≤ T.bulkL rows.flatten
  | [], h => by simp at h
  | x :: rows, h => by
    rw [List.flatten_cons, bulkL_append]
    rcases List.mem_cons.1 h with rfl | h
    · omega
    · have := flatL_mem h; omega
/-- Rows whose elements are read as data, read whole. -/
theorem rows_of {α : Type} {f : α → List T} {C : α → Prop} : ∀ {rows : List (List T)}, (∀ r ∈ rows, ∃ a, r = f a ∧ C a) → ∃ l : List α, rows = l.map f ∧ ∀ a ∈ l, C a
  | [], _ => ⟨[], rfl, by simp⟩
  | r :: rows, h => by
    obtain ⟨a, rfl, ha⟩ := h r (by simp)
    obtain ⟨l, rfl, hl⟩ := rows_of (rows := rows) fun r hr => h r (List.mem_cons_of_mem _ hr)
    exact ⟨a :: l, rfl, by simpa using ⟨ha, hl⟩⟩
theorem nums_flat {k : IntKind} : ∀ l : List Int, l.flatMap (fun z => [T.lit (.int k z)]) = l.map fun z => T.lit (.int k z)
  | [] => rfl
  | z :: l => by rw [List.flatMap_cons, List.map_cons, nums_flat l]; rfl
theorem nums_of {t e : TypeId} {k : IntKind} {ts : List T} (h : Typed P t ts) (ht : P.underlying t = some (.slice e)) (he : P.underlying e = some (.int k)) (hc : P.cellsOf e = 1) :
    ∃ l : List Int, ts = [numsT k l] ∧ l.length * P.bytesOf e ≤ 140737488351232 ∧ ∀ z ∈ l, (Lit.int k z).wf = true := by
  obtain ⟨rows, rfl, hr, _, hb, _⟩ := h.slice_inv ht
  obtain ⟨l, rfl, hl⟩ := rows_of (f := fun z => [T.lit (.int k z)]) (C := fun z => (Lit.int k z).wf = true) (fun r hr' => by
    obtain ⟨n, h1, h2⟩ := (hr r hr').int_inv he
    exact ⟨n, h1, h2⟩)
  refine ⟨l, ?_, by simpa using hb, hl⟩
  rw [hc, List.length_map, numsT]
  congr 2
  rw [← List.flatMap_def]
  exact nums_flat l
theorem row_of {X : Type} {f : X → List T} {C : X → Prop} {t e : TypeId} {ts : List T} (h : Typed P t ts) (ht : P.underlying t = some (.slice e)) (hf : ∀ r, Typed P e r → ∃ x, r = f x ∧ C x) :
    ∃ l : List X, ts = [rowT (P.cellsOf e) f l] ∧ l.length * P.bytesOf e ≤ 140737488351232 ∧ l.length ≤ maxLen ∧ ∀ x ∈ l, C x := by
  obtain ⟨rows, rfl, hr, _, hb, hm⟩ := h.slice_inv ht
  obtain ⟨l, rfl, hl⟩ := rows_of (f := f) (C := C) (fun r hr' => hf r (hr r hr'))
  refine ⟨l, ?_, by simpa using hb, by simpa using hm, hl⟩
  rw [List.length_map, rowT, List.flatMap_def]
end
end Go.Proofs.YtinmiekbhoemjaaGreatDoor.Tree
end
