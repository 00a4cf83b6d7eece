/- Rows put together out of parts of another row; what Cells answers, in one form. SchemaOwn's steps in plain Lean: how many numbers an answer has, two answered documents that lie apart, the rows that are gathered. -/
import Derived.Test.YtfckomjbgopmaaaGreatDoorSchKnown
import Derived.Test.YtfckomjbgopmaaaGreatDoorPack13
import Derived.Test.YtfckomjbgopmaaaGreatDoorPack9
import Derived.Test.YtfckomjbgopmaaaGreatDoorPack46
import Derived.Test.YtfckomjbgopmaaaGreatDoorPack31
import Derived.Test.YtfckomjbgopmaaaGreatDoorPack36
import Derived.Test.YtfckomjbgopmaaaGreatDoorSchBack
import Derived.Test.YtfckomjbgopmaaaGreatDoorSchCellsW
section
set_option linter.unusedVariables false
namespace Go.Proofs.YtfckomjbgopmaaaGreatDoor.Sch
open Go.RowKit Words Tree SchP Kit Owned AnaP

section
variable {X : Type} {f : X → List T} {s : Nat} {w : World} {S : Nat → Prop}
end

def okC : Except Int (List CT) → List CT
  | .error _ => []
  | .ok cs => cs
def codeC : Except Int (List CT) → Int
  | .error n => n
  | .ok _ => 0
theorem okC_ok {l : List FT} {d : List ET} (hl : l.length * 72 ≤ 140737488351232) (he : ∀ e ∈ d, EOk e) : (okC (cellsF decO runO l d)).length ≤ 64 ∧ ∀ c ∈ okC (cellsF decO runO l d), COk c := by
  cases h : cellsF decO runO l d with
  | error n => exact ⟨by simp [okC], fun c hc => by simp [okC] at hc⟩
  | ok cs => exact cellsF_ok hl he h
theorem stepF_err {l : List FT} {out : List (CT × Nat)} {e : ET} {n : Int} (h : stepF decO runO l out e = .error n) : n ≠ 0 := by
  unfold stepF at h
  split at h
  · cases h; decide
  · split at h
    · cases h; decide
    · split at h
      · cases h; decide
      · split at h
        · cases h; decide
        · split at h
          · cases h; decide
          · split at h
            · cases h; decide
            · cases h
theorem goF_err {l : List FT} : ∀ {d : List ET} {out : List (CT × Nat)} {n : Int}, goF decO runO l out d = .error n → n ≠ 0
  | [], out, n, h => by simp [goF] at h
  | e :: d, out, n, h => by
    simp only [goF] at h
    split at h
    · rename_i m hm
      injection h with h
      rw [← h]; exact stepF_err hm
    · exact goF_err h
/-- A refusal has a code. -/
theorem cellsF_err {l : List FT} {d : List ET} {n : Int} (h : cellsF decO runO l d = .error n) : n ≠ 0 := by
  unfold cellsF at h
  split at h
  · cases h; decide
  · split at h
    · cases h; decide
    · cases hg : goF decO runO l [] d with
      | error m => rw [hg] at h; injection h with h; rw [← h]; exact goF_err hg
      | ok o => rw [hg] at h; cases h
theorem codeC_zero {l : List FT} {d : List ET} : codeC (cellsF decO runO l d) = 0 ↔ ∃ r, cellsF decO runO l d = .ok r := by
  cases h : cellsF decO runO l d with
  | error n => exact ⟨fun e => absurd e (cellsF_err h), fun ⟨r, e⟩ => by cases e⟩
  | ok r => exact ⟨fun _ => ⟨r, rfl⟩, fun _ => rfl⟩
end Go.Proofs.YtfckomjbgopmaaaGreatDoor.Sch
end
section
set_option linter.unusedVariables false
namespace Go.Proofs.YtfckomjbgopmaaaGreatDoor.Sch
open Go.RowKit Words Tree SchP Kit Owned AnaP

theorem bulk_lits {k : IntKind} : ∀ l : List Int, T.bulkL (l.map fun z => T.lit (.int k z)) = l.length
  | [] => by simp [T.bulkL]
  | z :: l => by rw [List.map_cons, T.bulkL, bulk_lits l, show T.bulk (T.lit (.int k z)) = 1 from by simp [T.bulk]]; simp; omega
theorem bulk_entriesN : ∀ d : List ET, d.length ≤ T.bulkL (d.flatMap ecells) ∧ ∀ e ∈ d, e.nums.length ≤ T.bulkL (d.flatMap ecells)
  | [] => ⟨Nat.zero_le _, fun e h => by cases h⟩
  | x :: d => by
    have h1 : x.nums.length + 1 ≤ T.bulkL (ecells x) := by simp only [ecells, numsT, T.bulkL, T.bulk, bulk_lits]; omega
    obtain ⟨i1, i2⟩ := bulk_entriesN d
    rw [List.flatMap_cons, bulkL_append]
    refine ⟨by rw [List.length_cons]; omega, fun e h => ?_⟩
    rcases List.mem_cons.1 h with rfl | h
    · omega
    · have := i2 e h; omega
theorem nums_bulk {d : List ET} {n : Nat} (h : T.bulkL [entriesT d] ≤ n) : d.length ≤ n ∧ ∀ e ∈ d, e.nums.length ≤ n := by
  obtain ⟨h1, h2⟩ := bulk_entriesN d
  simp only [entriesT, rowT, T.bulkL, T.bulk] at h
  exact ⟨by omega, fun e he => by have := h2 e he; omega⟩
theorem valueF_nums {f : FT} {k : Nat} {e : ET} {c : CT × Nat} (h : valueF decO runO f k e = some c) : c.1.nums.length ≤ e.nums.length + 1 := by
  unfold valueF at h
  split at h
  · cases hr : runO f e.text with
    | none => rw [hr] at h; cases h
    | some n => rw [hr] at h; cases h; simp
  · split at h
    · split at h
      · cases h; simp
      · cases h
    · split at h
      · cases hr : decO f e.text with
        | none => rw [hr] at h; cases h
        | some n => rw [hr] at h; cases h; simp
      · cases h; exact Nat.le_succ _
theorem cellsF_nums {l : List FT} {d : List ET} {r : List CT} {N : Nat} (he : ∀ e ∈ d, e.nums.length ≤ N) (h : cellsF decO runO l d = .ok r) : ∀ c ∈ r, c.nums.length ≤ N + 1 := by
  obtain ⟨_, h64, cs, hm, rfl, _⟩ := cellsF_iff.1 h
  intro c hc
  obtain ⟨p, hp, rfl⟩ := List.mem_map.1 hc
  have : some p ∈ d.map (oneF decO runO l) := by rw [hm]; exact List.mem_map_of_mem hp
  obtain ⟨e, hed, ho⟩ := List.mem_map.1 this
  obtain ⟨k, f, g1, g2, _, g4, _⟩ := oneF_field ho
  have := valueF_nums g4
  have := he e hed
  omega
theorem backE_nums {l : List FT} {c : CT} {e : ET} (h : backE txtO l c = .ok e) : e.nums.length ≤ c.nums.length := by
  unfold backE at h
  split at h
  · cases h
  · split at h
    · cases h
    · split at h
      · cases h
      · split at h
        · injection h with h; subst h; exact Nat.zero_le _
        · injection h with h; subst h; exact Nat.le_refl _
theorem backGo_nums {l : List FT} {N : Nat} : ∀ {cs : List CT} {es : List ET}, (∀ c ∈ cs, c.nums.length ≤ N) → backGo txtO l cs = .ok es → es.length = cs.length ∧ ∀ e ∈ es, e.nums.length ≤ N
  | [], es, _, h => by
    simp only [backGo] at h
    injection h with h
    subst h
    exact ⟨rfl, fun e he => by cases he⟩
  | c :: cs, es, hc, h => by
    simp only [backGo] at h
    split at h
    · cases h
    · rename_i e1 h1
      split at h
      · cases h
      · rename_i d hd
        injection h with h
        subst h
        obtain ⟨i1, i2⟩ := backGo_nums (fun c hh => hc c (List.mem_cons_of_mem _ hh)) hd
        refine ⟨by simp [i1], fun e he => ?_⟩
        rcases List.mem_cons.1 he with rfl | he
        · have := backE_nums h1; have := hc c (by simp); omega
        · exact i2 e he
theorem backF_nums {l : List FT} {N : Nat} {cs : List CT} {es : List ET} (hc : ∀ c ∈ cs, c.nums.length ≤ N) (h : backF txtO l cs = .ok es) : es.length = cs.length ∧ ∀ e ∈ es, e.nums.length ≤ N := by
  unfold backF at h
  split at h
  · cases h
  · exact backGo_nums hc h
/-- Two answered documents: a list of them. -/
theorem two_apart {V1 V2 : World} {N1 : Nat} {p q : Value} {es es' : List ET} (h1 : RowN 68 2 .i64 epre ET.nums N1 V1 p es) (hb : Below V1.heap.size V1 V2) (h2 : RowN 68 2 .i64 epre ET.nums V1.heap.size V2 q es')
    (hN : N1 ≤ V1.heap.size) (hl : es.length ≤ 10000000) (hl' : es'.length ≤ 10000000) (hn : ∀ e ∈ es, e.nums.length ≤ 4294967296) (hn' : ∀ e ∈ es', e.nums.length ≤ 4294967296) :
    Calls Tryz.prog 27 #[.slice (some ⟨V2.heap.size, 0, none⟩) 2 2] (V2.alloc (.cells #[p, q] 30)) (fun e w' => e = .returned (.bool true) ∧ Below N1 (V2.alloc (.cells #[p, q] 30)) w') := by
  have hz := hb.size
  obtain ⟨us, ho1, hn1⟩ := rowN_below h1 hb
  obtain ⟨us', ho2, hn2⟩ := h2
  have hp : ∀ g, p.ownBlock = some g → g < V1.heap.size := fun g hg => by
    obtain ⟨_, hx, _⟩ := h1
    exact (hx.lt g hg).2
  have hq : ∀ g, q.ownBlock = some g → V1.heap.size ≤ g := fun g hg => (ho2.lt g hg).1
  have hB : Below V2.heap.size V2 (V2.alloc (.cells #[p, q] 30)) := (Below.refl _ _).alloc (Nat.le_refl _) _
  have hnl : NumL 2 .i64 ET.nums V1 N1 V1.heap.size es us ∨ True := .inr trivial
  obtain ⟨us0, ho0, hn0⟩ := h1
  obtain ⟨F1, L1⟩ := fam_numL (hn0.below hb (Nat.le_refl _))
  obtain ⟨F2, L2⟩ := fam_numL hn2
  have F := (F1.join F2 hN L1).below hB
  have ho0' := own_below ho0 hb
  have hlen0 := hn0.1
  have hlen2 := hn2.1
  refine apartDocs_any (.slice (some ⟨V2.heap.size, 0, none⟩) 2 2) 2 V2.heap.size N1 (fun j => if j = 0 then p else q) (fun j => if j = 0 then es.length else es'.length) (fun j => if j = 0 then vals3 epre es us0 else vals3 epre es' us')
    (fun j => if j < es.length then nthV us0 j else nthV us' (j - es.length)) (fun j => if j < es.length then nthN .i64 ET.nums es j else nthN .i64 ET.nums es' (j - es.length)) _ ?_ (fun j hj => ?_) (fun i j g hi hj a b => ?_) ?_ (fun j k hj hk => ?_) (fun j hj => ?_) (by omega) (fun j hj => ?_) (by simp; omega) (by omega)
  · refine ⟨rfl, .inr ⟨V2.heap.size, 2, #[p, q], rfl, Nat.le_refl _, ?_, Nat.le_refl _, by unfold maxLen; omega, rfl, rfl⟩⟩
    exact (Blk.new V2 30 #[p, q])
  · try dsimp only
    split
    · exact own_below ho0' hB
    · exact own_below (own_le ho2 hN) hB
  · try dsimp only at a b
    have : i = 0 ∨ i = 1 := by omega
    have : j = 0 ∨ j = 1 := by omega
    rcases ‹i = 0 ∨ i = 1› with rfl | rfl <;> rcases ‹j = 0 ∨ j = 1› with rfl | rfl
    · rfl
    · have := hp g a; have := hq g b; omega
    · have := hp g b; have := hq g a; omega
    · rfl
  · have e : off (fun j => if j = 0 then es.length else es'.length) 2 = es.length + es'.length := by simp [off]
    rw [e]; exact F
  · have e0 : off (fun j => if j = 0 then es.length else es'.length) 0 = 0 := rfl
    have e1 : off (fun j => if j = 0 then es.length else es'.length) 1 = es.length := by simp [off]
    try dsimp only at hk ⊢
    have : j = 0 ∨ j = 1 := by omega
    rcases this with rfl | rfl
    · rw [if_pos rfl] at hk ⊢
      rw [e0, Nat.zero_add, if_pos hk, Nat.mul_comm]
      exact vals3_at (fun _ => rfl) hlen0 hk
    · rw [if_neg (by omega)] at hk ⊢
      rw [e1, if_neg (by omega), Nat.add_sub_cancel_left, Nat.mul_comm]
      exact vals3_at (fun _ => rfl) hlen2 hk
  · try dsimp only
    split
    · exact nthN_len _ _ _ _ hn j
    · exact nthN_len _ _ _ _ hn' _
  · (try dsimp only)
    split <;> assumption
/-- The numbers of two answers' cells, turn about. -/
theorem two_rows {V1 V2 : World} {N1 : Nat} {p q : Value} {cs : List CT} (h1 : RowN 57 2 .i64 cpre CT.nums N1 V1 p cs) (hb : Below V1.heap.size V1 V2) (h2 : RowN 57 2 .i64 cpre CT.nums V1.heap.size V2 q cs)
    (hN : N1 ≤ V1.heap.size) (hn : ∀ e ∈ cs, e.nums.length ≤ 4294967296) :
    ∃ (us us' : List Value) (xs : Nat → List Value), V2.ownsRow N1 57 3 p cs.length (vals3 cpre cs us) ∧ V2.ownsRow N1 57 3 q cs.length (vals3 cpre cs us') ∧ us.length = cs.length ∧ us'.length = cs.length ∧
      Fam 2 N1 V2 (2 * cs.length) (fun j => if j % 2 = 0 then nthV us (j / 2) else nthV us' (j / 2)) (fun j => if j % 2 = 0 then nthV us (j / 2) else nthV us' (j / 2)) xs (fun _ => []) ∧ ∀ j, j < 2 * cs.length → (xs j).length ≤ 4294967296 := by
  obtain ⟨us, ho1, hn1⟩ := h1
  obtain ⟨us', ho2, hn2⟩ := h2
  obtain ⟨F1, L1⟩ := fam_numL (hn1.below hb (Nat.le_refl _))
  obtain ⟨F2, L2⟩ := fam_numL hn2
  have F := F1.join F2 hN L1
  refine ⟨us, us', fun j => if j % 2 = 0 then nthN .i64 CT.nums cs (j / 2) else nthN .i64 CT.nums cs (j / 2), own_below ho1 hb, own_le ho2 hN, hn1.1, hn2.1, ?_, fun j hj => ?_⟩
  · refine F.pull (fun j => if j % 2 = 0 then j / 2 else cs.length + j / 2) (fun j hj => ?_) (fun i j hi hj e => ?_) (fun j hj => ?_) (fun j hj => ?_)
    · (try dsimp only)
      split <;> omega
    · try dsimp only at e
      split at e <;> split at e <;> omega
    · try dsimp only
      split
      · rw [if_pos (by omega)]
      · rw [if_neg (by omega), Nat.add_sub_cancel_left]
    · try dsimp only
      split
      · rw [if_pos (by omega)]
      · rw [if_neg (by omega), Nat.add_sub_cancel_left]
  · (try dsimp only)
    split <;> exact nthN_len _ _ _ _ hn _
theorem rowN_le {X : Type} {et e : TypeId} {k : IntKind} {pre : X → List Value} {nums : X → List Int} {w : World} {N N' : Nat} {v : Value} {xs : List X} (h : RowN et e k pre nums N w v xs) (hN : N' ≤ N) : RowN et e k pre nums N' w v xs := by
  obtain ⟨vs, h1, h2, lv, h3, h4, h5⟩ := h
  exact ⟨vs, own_le h1 hN, h2, lv, h3, Nat.le_trans hN h4, h5⟩
theorem rowN_lt {N : Nat} {w : World} {v : Value} {xs : List CT} (h : RowN 57 2 .i64 cpre CT.nums N w v xs) : T.At bare w (fun g => g < w.heap.size) (cellsT xs) v := At.keep (fun _ _ => rfl) (fun g hg => hg.2.lt) (rowN_cells h)
theorem bothN {r : Except Int (List CT)} {w w' : World} {e : Ending} (h : CellsRetN r w e w') : ∃ P c, e = .returned (.tuple #[.slice P (okC r).length c, .int .i64 (codeC r)]) ∧ RowN 57 2 .i64 cpre CT.nums w.heap.size w' (.slice P (okC r).length c) (okC r) ∧ Below w.heap.size w w' := by
  obtain ⟨hb, h⟩ := h
  cases r with
  | error n => exact ⟨none, 0, h, rowN_nil hb.size, hb⟩
  | ok cs =>
    obtain ⟨v, h1, h2⟩ := h
    have h2' := h2
    obtain ⟨vs, h3, _⟩ := h2'
    obtain ⟨P, c, rfl⟩ := own_sl h3
    exact ⟨P, c, h1, h2, hb⟩
theorem bothEN {r : Except Int (List ET)} {w w' : World} {e : Ending} (h : BackRetN r w e w') : ∃ P c, e = .returned (.tuple #[.agg #[.slice P (okE r).length c], .int .i64 (codeE r)]) ∧ RowN 68 2 .i64 epre ET.nums w.heap.size w' (.slice P (okE r).length c) (okE r) ∧ Below w.heap.size w w' := by
  obtain ⟨hb, h⟩ := h
  cases r with
  | error n => exact ⟨none, 0, h, rowN_nil hb.size, hb⟩
  | ok cs =>
    obtain ⟨v, h1, h2⟩ := h
    have h2' := h2
    obtain ⟨vs, h3, _⟩ := h2'
    obtain ⟨P, c, rfl⟩ := own_sl h3
    exact ⟨P, c, h1, h2, hb⟩
theorem okE_nums {l : List FT} {N : Nat} {cs : List CT} (hc : ∀ c ∈ cs, c.nums.length ≤ N) : (okE (backF txtO l cs)).length ≤ cs.length ∧ ∀ e ∈ okE (backF txtO l cs), e.nums.length ≤ N := by
  cases h : backF txtO l cs with
  | error n => exact ⟨Nat.zero_le _, fun e he => by cases he⟩
  | ok es => obtain ⟨h1, h2⟩ := backF_nums hc h; exact ⟨Nat.le_of_eq h1, h2⟩
theorem okC_nums {l : List FT} {d : List ET} {N : Nat} (he : ∀ e ∈ d, e.nums.length ≤ N) : ∀ c ∈ okC (cellsF decO runO l d), c.nums.length ≤ N + 1 := by
  cases h : cellsF decO runO l d with
  | error n => intro c hc; cases hc
  | ok cs => exact cellsF_nums he h
theorem storedF_in {l : List FT} {d : List ET} {N : Nat} (he : ∀ e ∈ d, e.nums.length ≤ N) : (storedF l d).length ≤ d.length ∧ ∀ e ∈ storedF l d, e.nums.length ≤ N := ⟨List.length_filter_le _ _, fun e h => he e (List.mem_filter.1 h).1⟩
theorem storedN {es : List ET} {w w' : World} {e : Ending} (h : StoredRetN es w e w') : ∃ P c, e = .returned (.slice P es.length c) ∧ RowN 68 2 .i64 epre ET.nums w.heap.size w' (.slice P es.length c) es ∧ Below w.heap.size w w' := by
  obtain ⟨v, h1, h2, hb⟩ := h
  have h2' := h2
  obtain ⟨vs, h3, _⟩ := h2'
  obtain ⟨P, c, rfl⟩ := own_sl h3
  exact ⟨P, c, h1, h2, hb⟩
theorem Ad1.next2 {vs : Nat → Value} {w wr w' : World} {m : Nat} {all all' : Value} {wq : World} (h : Ad1 vs w m all wr) (hq : Below w.heap.size wr wq) (ho : w'.ownsRow w.heap.size 55 1 all' (m + 2) ((List.range m).map vs ++ [vs m, vs (m + 1)])) (hg : wq.grownBy w' all.ownBlock) : Ad1 vs w (m + 2) all' w' := by
  refine ⟨?_, ?_⟩
  · have : (List.range (m + 2)).map vs = (List.range m).map vs ++ [vs m, vs (m + 1)] := by
      rw [List.range_succ, List.range_succ, List.map_append, List.map_append]; simp
    rw [this]; exact ho
  · exact (h.below.trans hq).grown hg (Nat.le_trans h.below.size hq.size) (fun r e => (h.more.lt r e).1)
end Go.Proofs.YtfckomjbgopmaaaGreatDoor.Sch
end
