/- Arguments opened, whatever their type (bools, integers, texts, slices and structs of them, nested as one likes): the data as trees in memory, typed; and how much they hold. -/
import Derived.Test.YtinmiekbhoemjaaGreatDoorPack5
import Derived.Test.YtinmiekbhoemjaaGreatDoorRows
import Derived.SizedLaws
import Derived.ChangeArms
set_option linter.unusedVariables false
namespace Go.Proofs.YtinmiekbhoemjaaGreatDoor.Tree
open Go.RowKit Go.WideShapes Go.ChangeShapes Words

/-- The trees of a value of a type. -/
inductive Typed (P : Program) : TypeId → List T → Prop where
  | bool {t : TypeId} (b : Bool) (h : P.underlying t = some .bool) : Typed P t [.lit (.bool b)]
  | int {t : TypeId} {k : IntKind} (n : Int) (h : P.underlying t = some (.int k)) (hw : (Lit.int k n).wf = true) : Typed P t [.lit (.int k n)]
  | str {t : TypeId} (s : ByteArray) (h : P.underlying t = some .string) (hs : s.size ≤ 140737488351232) : Typed P t [.lit (.string s)]
  | slice {t e : TypeId} (rows : List (List T)) (h : P.underlying t = some (.slice e)) (hr : ∀ r ∈ rows, Typed P e r) (hn : ∀ r ∈ rows, r.length = P.cellsOf e) (hb : rows.length * P.bytesOf e ≤ 140737488351232) (hm : rows.length ≤ maxLen) :
      Typed P t [.arr (P.cellsOf e) rows.length rows.flatten]
  | struct {t : TypeId} {fs : Array Field} (parts : List (List T)) (h : P.underlying t = some (.struct fs)) (hl : parts.length = fs.size) (hp : ∀ (i : Nat) (f : Field) (p : List T), fs[i]? = some f → parts[i]? = some p → Typed P f.type p) : Typed P t parts.flatten

section
variable {P : Program} {t e : TypeId} {ts : List T}
theorem Typed.bool_inv (h : Typed P t ts) (ht : P.underlying t = some .bool) : ∃ b, ts = [.lit (.bool b)] := by
  cases h <;> rename_i h' <;> first | exact ⟨_, rfl⟩ | (simp_all)
theorem Typed.int_inv {k : IntKind} (h : Typed P t ts) (ht : P.underlying t = some (.int k)) : ∃ n, ts = [.lit (.int k n)] ∧ (Lit.int k n).wf = true := by
  cases h with
  | int n h' hw =>
    rw [ht] at h'
    injection h' with h'
    injection h' with h'
    subst h'
    exact ⟨n, rfl, hw⟩
  | bool _ h' => simp_all
  | str _ h' => simp_all
  | slice _ h' => simp_all
  | struct _ h' => simp_all
theorem Typed.str_inv (h : Typed P t ts) (ht : P.underlying t = some .string) : ∃ s, ts = [.lit (.string s)] ∧ s.size ≤ 140737488351232 := by
  cases h with
  | str s h' hs => exact ⟨s, rfl, hs⟩
  | bool _ h' => simp_all
  | int _ h' => simp_all
  | slice _ h' => simp_all
  | struct _ h' => simp_all
theorem Typed.slice_inv (h : Typed P t ts) (ht : P.underlying t = some (.slice e)) : ∃ rows : List (List T), ts = [.arr (P.cellsOf e) rows.length rows.flatten] ∧ (∀ r ∈ rows, Typed P e r) ∧ (∀ r ∈ rows, r.length = P.cellsOf e) ∧ rows.length * P.bytesOf e ≤ 140737488351232 ∧ rows.length ≤ maxLen := by
  cases h with
  | slice rows h' hr hn hb hm =>
    rw [ht] at h'
    injection h' with h'
    injection h' with h'
    subst h'
    exact ⟨rows, rfl, hr, hn, hb, hm⟩
  | bool _ h' => simp_all
  | int _ h' => simp_all
  | str _ h' => simp_all
  | struct _ h' => simp_all
theorem Typed.struct_inv {fs : Array Field} (h : Typed P t ts) (ht : P.underlying t = some (.struct fs)) : ∃ parts : List (List T), ts = parts.flatten ∧ parts.length = fs.size ∧ ∀ (i : Nat) (f : Field) (p : List T), fs[i]? = some f → parts[i]? = some p → Typed P f.type p := by
  cases h with
  | struct parts h' hl hp =>
    rw [ht] at h'
    injection h' with h'
    injection h' with h'
    subst h'
    exact ⟨parts, rfl, hl, hp⟩
  | bool _ h' => simp_all
  | int _ h' => simp_all
  | str _ h' => simp_all
  | slice _ h' => simp_all
end

mutual
def T.bulk : T → Nat
  | .lit (.string s) => s.size + 1
  | .lit _ => 1
  | .arr _ _ xs => T.bulkL xs + 1
def T.bulkL : List T → Nat
  | [] => 0
  | t :: ts => T.bulk t + T.bulkL ts
end
theorem bulkL_append : ∀ l m : List T, T.bulkL (l ++ m) = T.bulkL l + T.bulkL m
  | [], m => by simp [T.bulkL]
  | t :: l, m => by simp only [List.cons_append, T.bulkL, bulkL_append l m]; omega

/-- Fields lie one behind the other. -/
def layB (P : Program) : Nat → List Field → Option Nat
  | off, [] => some off
  | off, f :: r => if f.offset = off then layB P (off + P.cellsOf f.type) r else none
/-- A list of types that holds all their parts', each one readable as trees. -/
def fineB (P : Program) (l : List TypeId) : Bool := l.all fun t => match P.underlying t with
  | some .bool | some (.int _) | some .string => P.cellsOf t == 1
  | some (.slice e) => l.contains e && P.cellsOf t == 1 && decide (0 < P.cellsOf e)
  | some (.struct fs) => fs.toList.all (fun f => l.contains f.type) && (layB P 0 fs.toList == some (P.cellsOf t))
  | _ => false

section
variable {P : Program} {w : World}
theorem Cells.append {ad : Addr} {l m : List Value} (h : Cells w ad l) (h' : Cells w (ad.add l.length) m) : Cells w ad (l ++ m) := fun j u hu => by
  rcases Nat.lt_or_ge j l.length with hj | hj
  · rw [List.getElem?_append_left hj] at hu; exact h j u hu
  · rw [List.getElem?_append_right hj] at hu
    have := h' _ u hu
    rwa [add_of_add, Nat.add_sub_cancel' hj] at this
theorem Cells.flatten {k : Nat} : ∀ {vss : List (List Value)} {ad : Addr}, (∀ (i : Nat) (v : List Value), vss[i]? = some v → v.length = k ∧ Cells w (ad.add (i * k)) v) → Cells w ad vss.flatten
  | [], _, _ => fun j u hu => by simp at hu
  | v :: vss, ad, h => by
    rw [List.flatten_cons]
    obtain ⟨h1, h2⟩ := h 0 v rfl
    refine Cells.append (by simpa [Addr.add] using h2) (Cells.flatten (k := k) fun i u hu => ?_)
    obtain ⟨h3, h4⟩ := h (i + 1) u hu
    refine ⟨h3, ?_⟩
    rw [add_of_add, h1, ← Nat.add_comm, ← Nat.succ_mul]; exact h4
theorem AtL.flatten {sent : Nat → List (List Value)} {S : Nat → Prop} : ∀ {rows : List (List T)} {vss : List (List Value)}, rows.length = vss.length → (∀ (i : Nat) (r : List T) (v : List Value), rows[i]? = some r → vss[i]? = some v → T.AtL sent w S r v) → T.AtL sent w S rows.flatten vss.flatten
  | [], [], _, _ => by simp [T.AtL]
  | r :: rows, v :: vss, hl, h => by
    rw [List.flatten_cons, List.flatten_cons]
    exact AtL.append (h 0 r v rfl rfl) (AtL.flatten (by simpa using hl) fun i => h (i + 1))
  | [], _ :: _, hl, _ => by simp at hl
  | _ :: _, [], hl, _ => by simp at hl
theorem exists_lists {α β : Type} {n : Nat} {Q : Nat → α → β → Prop} (h : ∀ i, i < n → ∃ a b, Q i a b) : ∃ (l : List α) (m : List β), l.length = n ∧ m.length = n ∧ ∀ (i : Nat) (a : α) (b : β), l[i]? = some a → m[i]? = some b → Q i a b := by
  induction n with
  | zero => exact ⟨[], [], rfl, rfl, fun i a b hi => by simp at hi⟩
  | succ n ih =>
    obtain ⟨l, m, hl, hm, hq⟩ := ih fun i hi => h i (by omega)
    obtain ⟨a, b, hab⟩ := h n (by omega)
    refine ⟨l ++ [a], m ++ [b], by simp [hl], by simp [hm], fun i a' b' ha' hb' => ?_⟩
    rcases Nat.lt_or_ge i n with h1 | h1
    · rw [List.getElem?_append_left (by omega)] at ha' hb'
      exact hq i a' b' ha' hb'
    · rw [List.getElem?_append_right (by omega)] at ha' hb'
      have hi : i = n := by
        have := (List.getElem?_eq_some_iff.1 ha').1
        simp at this; omega
      subst hi
      rw [hl] at ha'; rw [hm] at hb'
      simp only [Nat.sub_self, List.getElem?_cons_zero, Option.some.injEq] at ha' hb'
      subst ha'; subst hb'
      exact hab
variable {H : Type} {enc : TypeId × Value → H}
theorem weights_mem_all {d : DataW H} {e : TypeId} : ∀ {l : List (DataW H)}, d ∈ l → ∀ n ∈ d.weights P e, n ∈ DataW.weightsAll P e l
  | [], h, _, _ => by simp at h
  | x :: l, h, n, hn => by
    simp only [DataW.weightsAll, List.mem_append]
    rcases List.mem_cons.1 h with rfl | h
    · exact .inl hn
    · exact .inr (weights_mem_all h n hn)
theorem bulk_flatten : ∀ {rows : List (List T)} {ds : List (DataW H)}, rows.length = ds.length → (∀ (i : Nat) (r : List T) (d : DataW H), rows[i]? = some r → ds[i]? = some d → T.bulkL r ≤ Rows.uptoBulk d) → T.bulkL rows.flatten ≤ Rows.uptoBulkAll ds
  | [], [], _, _ => by simp [T.bulkL]
  | r :: rows, d :: ds, hl, h => by
    rw [List.flatten_cons, bulkL_append, Rows.uptoBulkAll]
    have h1 := h 0 r d rfl rfl
    have h2 := bulk_flatten (by simpa using hl) fun i => h (i + 1)
    omega
  | [], _ :: _, hl, _ => by simp at hl
  | _ :: _, [], hl, _ => by simp at hl

/-- The cells of a struct are its fields', one behind the other. -/
theorem layB_split : ∀ {fs : List Field} {off n : Nat} {cs : List Value}, layB P off fs = some n → cs.length = n → cs.drop off = (fs.map fun f => (cs.drop f.offset).take (P.cellsOf f.type)).flatten
  | [], off, n, cs, h, hl => by
    simp only [layB, Option.some.injEq] at h
    subst h
    rw [← hl]; simp
  | f :: fs, off, n, cs, h, hl => by
    simp only [layB] at h
    split at h
    · rename_i h0
      subst h0
      have := layB_split h hl
      rw [List.map_cons, List.flatten_cons, ← this, ← List.drop_drop, List.take_append_drop]
    · cases h

theorem of_beq {n m : Nat} (h : (n == m) = true) : n = m := by simpa using h
theorem reach_eq : reachBytes = 140737488351232 := rfl

/-- Whatever is read as data is a typed tree in memory. -/
theorem open_cells {l : List TypeId} (hl : fineB P l = true) : ∀ (fuel : Nat) (t : TypeId) (cs : List Value) (d : DataW H) (ps : List MemPlace), t ∈ l → DataW.trod enc P w 0 (fun _ => true) true fuel t cs = some (d, ps) → (∀ n ∈ d.weights P t, n ≤ reachBytes) →
    ∃ ts, T.AtL bare w (fun g => g < w.heap.size) ts cs ∧ Typed P t ts ∧ cs.length = P.cellsOf t ∧ T.bulkL ts ≤ Rows.uptoBulk d := by
  intro fuel
  induction fuel with
  | zero => intro t cs d ps _ h; simp [DataW.trod] at h
  | succ fuel ih =>
    intro t cs d ps hm h hw
    have hf := List.all_eq_true.1 hl t hm
    cases hu : P.underlying t with
    | none => simp [hu] at hf
    | some u =>
      rw [hu] at hf
      cases u <;> try (simp at hf; done)
      case bool =>
        obtain ⟨b, rfl, hx⟩ := DataW.trod_bool hu h
        simp only [Prod.mk.injEq] at hx
        obtain ⟨rfl, rfl⟩ := hx
        exact ⟨[.lit (.bool b)], by simp [T.AtL, T.At], .bool _ hu, (of_beq hf).symm, by simp [T.bulkL, T.bulk, Rows.uptoBulk]⟩
      case int k =>
        obtain ⟨z, rfl, hx, hwf⟩ := DataW.trod_int hu h
        simp only [Prod.mk.injEq] at hx
        obtain ⟨rfl, rfl⟩ := hx
        exact ⟨[.lit (.int k z)], by simp [T.AtL, T.At], .int _ hu hwf, (of_beq hf).symm, by simp [T.bulkL, T.bulk, Rows.uptoBulk]⟩
      case string =>
        obtain ⟨z, rfl, hx, _⟩ := DataW.trod_string hu h
        simp only [Prod.mk.injEq] at hx
        obtain ⟨rfl, rfl⟩ := hx
        refine ⟨[.lit (.string z)], by simp [T.AtL, T.At], .str _ hu ?_, (of_beq hf).symm, by simp [T.bulkL, T.bulk, Rows.uptoBulk]⟩
        have := hw
        simp only [DataW.weights, List.mem_singleton, forall_eq] at this
        rw [reach_eq] at this
        simpa using this
      case slice e =>
        simp only [Bool.and_eq_true, List.contains_iff_mem, beq_iff_eq, decide_eq_true_eq] at hf
        obtain ⟨⟨he, hc1⟩, he0⟩ := hf
        rcases DataW.trod_slice hu h with ⟨rfl, hx⟩ | ⟨a, len, cap, elems, rest, n, hfu, rfl, hx, hb, hlc, hcm, hel, hei, -, -⟩
        · simp only [Prod.mk.injEq] at hx
          obtain ⟨rfl, rfl⟩ := hx
          refine ⟨[.arr (P.cellsOf e) 0 []], ?_, .slice [] hu (by simp) (by simp) (by simp) (by unfold maxLen; simp), by simp [hc1], by simp [T.bulkL, T.bulk, Rows.uptoBulk]⟩
          simp only [T.AtL, T.At, and_true]
          exact ⟨none, 0, [], rfl, by simp [bare], by unfold maxLen; omega, by simp, fun h => by simp [bare] at h, trivial⟩
        · obtain rfl : n = fuel := by omega
          simp only [Prod.mk.injEq] at hx
          obtain ⟨rfl, rfl⟩ := hx
          simp only [DataW.weights, hu] at hw
          have hw0 := hw _ (List.mem_cons_self ..)
          simp only [List.length_map] at hw0
          have hall : ∀ i, i < len → ∃ (r : List T) (v : List Value), T.AtL bare w (fun g => g < w.heap.size) r v ∧ Typed P e r ∧ v.length = P.cellsOf e ∧ Cells w (a.add (i * P.cellsOf e)) v ∧ (∀ d', (elems.map (·.1))[i]? = some d' → T.bulkL r ≤ Rows.uptoBulk d') := by
            intro i hi
            have h1 := hei i hi
            rw [List.getElem?_eq_getElem (by omega)] at h1
            obtain ⟨v, hv, hv2⟩ := Option.bind_eq_some_iff.1 h1
            obtain ⟨_, hcl, hat⟩ := World.cells?_some hv
            obtain ⟨r, hr1, hr2, hr3, hr4⟩ := ih e v elems[i].1 elems[i].2 he hv2 (fun m hm' => hw m (by
              refine List.mem_cons_of_mem _ (List.mem_append_left _ (weights_mem_all (d := elems[i].1) ?_ m hm'))
              exact List.mem_map.2 ⟨_, List.getElem_mem _, rfl⟩))
            refine ⟨r, v, hr1, hr2, hcl, fun j u hu' => ?_, fun d' hd' => ?_⟩
            · rw [hat j (by have := (List.getElem?_eq_some_iff.1 hu').1; omega)]; exact hu'
            · rw [List.getElem?_map, List.getElem?_eq_getElem (by omega)] at hd'
              simp only [Option.map_some, Option.some.injEq] at hd'
              rw [← hd']; exact hr4
          obtain ⟨rows, vss, hrl, hvl, hq⟩ := exists_lists hall
          have hget : ∀ r ∈ rows, ∃ (i : Nat) (v : List Value), rows[i]? = some r ∧ vss[i]? = some v := by
            intro r hr
            obtain ⟨i, hi, rfl⟩ := List.getElem_of_mem hr
            exact ⟨i, vss[i]'(by omega), List.getElem?_eq_getElem hi, List.getElem?_eq_getElem (by omega)⟩
          have hcf : Cells w a vss.flatten := Cells.flatten (k := P.cellsOf e) fun i v hv => by
            have hi := (List.getElem?_eq_some_iff.1 hv).1
            obtain ⟨_, _, h3, h4, _⟩ := hq i (rows[i]'(by omega)) v (List.getElem?_eq_getElem (by omega)) hv
            exact ⟨h3, h4⟩
          have hrlen : ∀ r ∈ rows, r.length = P.cellsOf e := fun r hr => by
            obtain ⟨i, v, h1, h2⟩ := hget r hr
            obtain ⟨q1, _, q3, _⟩ := hq i r v h1 h2
            rw [← AtL.length q1, q3]
          have hfl : ∀ (rr : List (List T)), (∀ r ∈ rr, r.length = P.cellsOf e) → rr.flatten.length = rr.length * P.cellsOf e := by
            intro rr
            induction rr with
            | nil => intro _; simp
            | cons x rr ihr => intro hh; rw [List.flatten_cons, List.length_append, ihr (fun r hr => hh r (by simp [hr])), hh x (by simp), List.length_cons, Nat.succ_mul]; omega
          have hat : T.AtL bare w (fun g => g < w.heap.size) rows.flatten vss.flatten := AtL.flatten (by omega) fun i r v h1 h2 => (hq i r v h1 h2).1
          refine ⟨[.arr (P.cellsOf e) rows.length rows.flatten], ?_, .slice rows hu (fun r hr => ?_) hrlen ?_ (by omega), by simp [hc1], ?_⟩
          · simp only [T.AtL, T.At, and_true]
            refine ⟨some a, cap, vss.flatten, by rw [hrl], by simp [bare]; omega, hcm, hfl rows hrlen, fun hn => ⟨a, rfl, ?_, by simpa [bare] using hcf⟩, hat⟩
            simp only [bare, List.length_nil, Nat.add_zero] at hn
            have hpos : 0 < vss.flatten.length := by
              rw [AtL.length hat, hfl rows hrlen]; exact Nat.mul_pos hn he0
            have := World.block_lt_of_cell? w _ (hcf 0 _ (List.getElem?_eq_getElem hpos))
            rwa [block_of_add] at this
          · obtain ⟨i, v, h1, h2⟩ := hget r hr
            exact (hq i r v h1 h2).2.1
          · rw [hrl, ← hel, ← reach_eq]
            exact Nat.le_trans (Nat.mul_le_mul_right _ (Nat.le_add_right _ _)) hw0
          · have hbf : T.bulkL rows.flatten ≤ Rows.uptoBulkAll (elems.map (·.1)) := bulk_flatten (by simp; omega) fun i r d' h1 h2 => by
              have hi := (List.getElem?_eq_some_iff.1 h1).1
              exact (hq i r _ h1 (List.getElem?_eq_getElem (by omega : i < vss.length))).2.2.2.2 d' h2
            simp only [T.bulkL, T.bulk, Rows.uptoBulk]
            omega
      case struct fs =>
        simp only [Bool.and_eq_true, List.all_eq_true, List.contains_iff_mem, beq_iff_eq] at hf
        obtain ⟨hfm, hlay⟩ := hf
        obtain ⟨xs, n, hfu, hx, hcl, hxl, hfi⟩ := DataW.trod_struct hu h
        obtain rfl : n = fuel := by omega
        simp only [Prod.mk.injEq] at hx
        obtain ⟨rfl, rfl⟩ := hx
        simp only [DataW.weights, hu] at hw
        have hall : ∀ i, i < fs.size → ∃ (r : List T) (v : List Value), T.AtL bare w (fun g => g < w.heap.size) r v ∧ (∀ f, fs[i]? = some f → Typed P f.type r ∧ v = (cs.drop f.offset).take (P.cellsOf f.type)) ∧ (∀ d', (xs.map (·.1))[i]? = some d' → T.bulkL r ≤ Rows.uptoBulk d') := by
          intro i hi
          have h1 := hfi i fs[i] (Array.getElem?_eq_getElem hi)
          rw [List.getElem?_eq_getElem (by omega)] at h1
          obtain ⟨r, hr1, hr2, hr3, hr4⟩ := ih _ _ xs[i].1 xs[i].2 (hfm _ (by simp)) h1 (fun m hm' => hw m (by
            refine DataW.weights_mem_each (j := i) (t := fs[i].type) (d := xs[i].1) ?_ ?_ m hm'
            · rw [List.getElem?_map]; simp [hi]
            · rw [List.getElem?_map, List.getElem?_eq_getElem (by omega)]; rfl))
          refine ⟨r, _, hr1, fun f hf' => ?_, fun d' hd' => ?_⟩
          · rw [Array.getElem?_eq_getElem hi, Option.some.injEq] at hf'
            subst hf'
            exact ⟨hr2, rfl⟩
          · rw [List.getElem?_map, List.getElem?_eq_getElem (by omega)] at hd'
            simp only [Option.map_some, Option.some.injEq] at hd'
            rw [← hd']; exact hr4
        obtain ⟨rows, vss, hrl, hvl, hq⟩ := exists_lists hall
        have hcs : cs = vss.flatten := by
          have h1 := layB_split hlay hcl
          rw [List.drop_zero] at h1
          rw [h1]
          congr 1
          apply List.ext_getElem?
          intro i
          rcases Nat.lt_or_ge i fs.size with hi | hi
          · have h2 := (hq i (rows[i]'(by omega)) (vss[i]'(by omega)) (List.getElem?_eq_getElem _) (List.getElem?_eq_getElem _)).2.1 _ (Array.getElem?_eq_getElem hi)
            rw [List.getElem?_eq_getElem (by omega : i < vss.length), h2.2, List.getElem?_map]
            simp [hi]
          · rw [List.getElem?_eq_none (by simpa using hi), List.getElem?_eq_none (by omega)]
        refine ⟨rows.flatten, ?_, .struct rows hu hrl fun i f p h1 h2 => ?_, hcl, ?_⟩
        · rw [hcs]
          exact AtL.flatten (by omega) fun i r v h1 h2 => (hq i r v h1 h2).1
        · have hi := (List.getElem?_eq_some_iff.1 h2).1
          exact ((hq i p _ h2 (List.getElem?_eq_getElem (by omega : i < vss.length))).2.1 f h1).1
        · have hbf : T.bulkL rows.flatten ≤ Rows.uptoBulkAll (xs.map (·.1)) := bulk_flatten (by simp; omega) fun i r d' h1 h2 => by
            have hi := (List.getElem?_eq_some_iff.1 h1).1
            exact (hq i r _ h1 (List.getElem?_eq_getElem (by omega : i < vss.length))).2.2 d' h2
          simp only [Rows.uptoBulk]
          omega

/-- An argument of a struct's type, opened. -/
theorem open_struct {l : List TypeId} (hl : fineB P l = true) {r : Reach} {b0 : Nat} {t : TypeId} {fs : Array Field} {v : Value} {d : DataW H} {ps : List MemPlace} (ht : t ∈ l) (hs : P.underlying t = some (.struct fs)) (hv : Value.okWide P w r b0 t v)
    (h : DataW.Trod enc P w 0 (fun _ => true) true t v d ps) (hw : ∀ n ∈ d.weights P t, n ≤ reachBytes) :
    ∃ ts vs, v = .agg vs.toArray ∧ T.AtL bare w (fun g => g < w.heap.size) ts vs ∧ Typed P t ts ∧ T.bulkL ts ≤ Rows.uptoBulk d := by
  obtain ⟨cs, rfl, hsz⟩ := okWide_struct hs hv
  obtain ⟨fuel, hf⟩ := h
  obtain ⟨ts, h1, h2, _, h4⟩ := open_cells hl fuel t _ d ps ht hf hw
  exact ⟨ts, cs.toList, rfl, by simpa [Value.cells] using h1, h2, h4⟩
end
end Go.Proofs.YtinmiekbhoemjaaGreatDoor.Tree
