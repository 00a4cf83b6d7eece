/- Cells that are answered lie in the machine's range. Rows put together out of parts of another row; what Cells answers, in one form. -/
import Derived.Test.YtfckomjbgopmaaaGreatDoorPack20
import Derived.Test.YtfckomjbgopmaaaGreatDoorSchKnown
import Derived.Test.YtfckomjbgopmaaaGreatDoorPack16
import Derived.Test.YtfckomjbgopmaaaGreatDoorSchLentS
import Derived.Test.YtfckomjbgopmaaaGreatDoorPack12
section
set_option linter.unusedVariables false
namespace Go.Proofs.YtfckomjbgopmaaaGreatDoor.Sch
open Go.RowKit Words Tree SchP Kit Owned AnaP

theorem fin_i64 {b : Bool} {ds : List UInt8} {n : Int} (h : OrdP.fin b ds = some n) : I64 n := by
  unfold OrdP.fin at h
  unfold I64
  split at h
  · split at h
    · injection h with h; omega
    · cases h
  · split at h
    · injection h with h; omega
    · cases h
theorem decO_i64 {f : FT} {s : ByteArray} {n : Int} (h : decO f s = some n) : I64 n := by
  unfold decO at h
  split at h
  · cases h
  · unfold OrdP.decF at h
    dsimp only at h
    split at h
    · cases h
    · split at h
      · exact fin_i64 h
      · split at h
        · exact fin_i64 h
        · cases h
theorem valueF_ok {f : FT} {k : Nat} {e : ET} {c : CT × Nat} (hk : k ≤ 9223372036854775807) (he : EOk e) (h : valueF decO runO f k e = some c) : COk c.1 := by
  have hkk : I64 (k : Int) := by unfold I64; omega
  unfold valueF at h
  split at h
  · cases hr : runO f e.text with
    | none => rw [hr] at h; cases h
    | some n => rw [hr] at h; cases h; exact ⟨hkk, he.text, ⟨by simp, fun z hz => by cases hz⟩⟩
  · split at h
    · split at h
      · cases h; exact ⟨hkk, he.text, ⟨by simp, fun z hz => by cases hz⟩⟩
      · cases h
    · split at h
      · cases hr : decO f e.text with
        | none => rw [hr] at h; cases h
        | some n =>
          rw [hr] at h; cases h
          refine ⟨hkk, by show (0 : Nat) ≤ _; omega, ⟨by simp, fun z hz => ?_⟩⟩
          have : z = n := by simpa using hz
          subst this
          exact decO_i64 hr
      · cases h; exact ⟨hkk, by show (0 : Nat) ≤ _; omega, he.nums⟩
theorem cellsF_ok {l : List FT} {d : List ET} {r : List CT} (hl : l.length * 72 ≤ 140737488351232) (he : ∀ e ∈ d, EOk e) (h : cellsF decO runO l d = .ok r) : r.length ≤ 64 ∧ ∀ c ∈ r, COk c := by
  obtain ⟨_, h64, cs, hm, rfl, _⟩ := cellsF_iff.1 h
  have hlen : d.length = cs.length := by have := congrArg List.length hm; simpa using this
  refine ⟨by rw [List.length_map]; omega, fun c hc => ?_⟩
  obtain ⟨p, hp, rfl⟩ := List.mem_map.1 hc
  have : some p ∈ d.map (oneF decO runO l) := by rw [hm]; exact List.mem_map_of_mem hp
  obtain ⟨e, hed, ho⟩ := List.mem_map.1 this
  obtain ⟨k, f, g1, g2, _, g4, _⟩ := oneF_field ho
  have hk : k < l.length := (List.getElem?_eq_some_iff.1 g2).1
  exact valueF_ok (by omega) (he e hed) g4
theorem bulk_entries : ∀ d : List ET, ∀ e ∈ d, e.text.size ≤ T.bulkL (d.flatMap ecells)
  | [], e, h => by cases h
  | x :: d, e, h => by
    have h1 : x.text.size ≤ T.bulkL (ecells x) := by simp only [ecells, T.bulkL, T.bulk]; omega
    rw [List.flatMap_cons, bulkL_append]
    rcases List.mem_cons.1 h with rfl | h
    · omega
    · have := bulk_entries d e h; omega
theorem text_bulk {d : List ET} {n : Nat} (h : T.bulkL [entriesT d] ≤ n) : ∀ e ∈ d, e.text.size ≤ n := fun e he => by
  have := bulk_entries d e he
  simp only [entriesT, rowT, T.bulkL, T.bulk] at h
  omega
end Go.Proofs.YtfckomjbgopmaaaGreatDoor.Sch
end
section
set_option linter.unusedVariables false
namespace Go.Proofs.YtfckomjbgopmaaaGreatDoor.Sch
open Go.RowKit Words Tree SchP Kit Owned AnaP

section
variable {X : Type} {f : X → List T} {s : Nat} {w : World} {S : Nat → Prop}
theorem own_atS (hf : ∀ x, (f x).length = s) {B : Nat} {et : TypeId} {v : Value} {xs : List X} {cs : List Value} (ho : w.ownsRow B et s v xs.length cs) (ha : T.AtL bare w S (xs.flatMap f) cs) (hS : ∀ g, v.ownBlock = some g → S g) : T.At bare w S (rowT s f xs) v := by
  simp only [rowT, T.At]
  rcases ho.2 with ⟨rfl, h0⟩ | ⟨g, cap, cur, rfl, hB, hgg, hn, hm, hcs, ht⟩
  · exact ⟨none, 0, cs, by rw [h0], by simp [bare, h0], by unfold maxLen; omega, flatMap_len f hf xs, fun hlt => by simp [bare, h0] at hlt, ha⟩
  · refine ⟨_, cap, cs, rfl, by simpa [bare] using hn, hm, flatMap_len f hf xs, fun _ => ⟨_, rfl, hS g rfl, ?_⟩, ha⟩
    have := ho.cells (g := g) rfl
    simpa [bare, Cells] using this
theorem atL_parts (hf : ∀ x, (f x).length = s) {xs : List X} {vs : List Value} (ha : T.AtL bare w S (xs.flatMap f) vs) {k : Nat} (hk : k ≤ xs.length) : T.AtL bare w S ((xs.take k).flatMap f) (vs.take (k * s)) ∧ T.AtL bare w S ((xs.drop k).flatMap f) (vs.drop (k * s)) := by
  have hl : ((xs.take k).flatMap f).length = k * s := by rw [flatMap_len f hf, List.length_take, Nat.min_eq_left hk]
  have h := ha
  rw [← List.take_append_drop k xs, List.flatMap_append] at h
  have := AtL.split h
  rwa [hl] at this
theorem atL_one (h1 : ∀ (x : X) (us : List Value), T.AtL bare w S (f x) us → ∀ u ∈ us, u.oneCell' = true) : ∀ (xs : List X) {vs : List Value}, T.AtL bare w S (xs.flatMap f) vs → ∀ u ∈ vs, u.oneCell' = true
  | [], vs, h, u, hu => by
    have := AtL.nil_ h
    subst this
    cases hu
  | x :: xs, vs, h, u, hu => by
    rw [List.flatMap_cons] at h
    obtain ⟨a, b⟩ := AtL.split h
    rw [← List.take_append_drop (f x).length vs] at hu
    rcases List.mem_append.1 hu with hu | hu
    · exact h1 x _ a u hu
    · exact atL_one h1 xs b u hu
theorem reads_part {B n : Nat} {A : Option Addr} {vs : List Value} (h : Reads w B s A n vs) {k : Nat} (hk : k ≤ n) : Reads w B s A k (vs.take (k * s)) := by
  refine ⟨by rw [List.length_take, h.1]; exact Nat.min_eq_left (Nat.mul_le_mul_right s hk), fun hn => ?_⟩
  obtain ⟨ad, e, hb, hc⟩ := h.2 (by omega)
  exact ⟨ad, e, hb, fun j u hu => hc j u (by rw [List.getElem?_take] at hu; split at hu; exact hu; cases hu)⟩
end

theorem ecells_one {w : World} {S : Nat → Prop} (e : ET) (us : List Value) (h : T.AtL bare w S (ecells e) us) : ∀ u ∈ us, u.oneCell' = true := by
  obtain ⟨v, rfl, g⟩ := at_ecells h
  obtain ⟨A, c, rfl, _, _⟩ := at_slice g
  intro u hu
  simp only [List.mem_cons, List.not_mem_nil, or_false] at hu
  rcases hu with rfl | rfl | rfl <;> rfl
theorem ccells_one {w : World} {S : Nat → Prop} (c : CT) (us : List Value) (h : T.AtL bare w S (ccells c) us) : ∀ u ∈ us, u.oneCell' = true := by
  obtain ⟨v, rfl, g⟩ := at_ccells h
  obtain ⟨A, c, rfl, _, _⟩ := at_slice g
  intro u hu
  simp only [List.mem_cons, List.not_mem_nil, or_false] at hu
  rcases hu with rfl | rfl | rfl <;> rfl
def okC : Except Int (List CT) → List CT
  | .error _ => []
  | .ok cs => cs
def codeC : Except Int (List CT) → Int
  | .error n => n
  | .ok _ => 0
theorem cells_noneC {w : World} {S : Nat → Prop} : T.At bare w S (cellsT []) (.slice none 0 0) := by
  simp only [cellsT, rowT, T.At]
  exact ⟨none, 0, [], rfl, by simp [bare], by unfold maxLen; omega, rfl, fun hn => by simp [bare] at hn, by simp [T.AtL]⟩
theorem bothC {r : Except Int (List CT)} {w w' : World} {e : Ending} (h : CellsRet r w e w') : ∃ v, e = .returned (.tuple #[v, .int .i64 (codeC r)]) ∧ T.At bare w' (fun g => w.heap.size ≤ g ∧ CellsAt w' g) (cellsT (okC r)) v ∧ Below w.heap.size w w' := by
  obtain ⟨hb, h⟩ := h
  cases r with
  | error n => exact ⟨_, h, cells_noneC, hb⟩
  | ok cs => obtain ⟨v, h1, h2⟩ := h; exact ⟨v, h1, h2, hb⟩
theorem okC_ok {l : List FT} {d : List ET} (hl : l.length * 72 ≤ 140737488351232) (he : ∀ e ∈ d, EOk e) : (okC (cellsF decO runO l d)).length ≤ 64 ∧ ∀ c ∈ okC (cellsF decO runO l d), COk c := by
  cases h : cellsF decO runO l d with
  | error n => exact ⟨by simp [okC], fun c hc => by simp [okC] at hc⟩
  | ok cs => exact cellsF_ok hl he h
theorem stepF_err {l : List FT} {out : List (CT × Nat)} {e : ET} {n : Int} (h : stepF decO runO l out e = .error n) : n ≠ 0 := by
  unfold stepF at h
  split at h
  · cases h; decide
  · split at h
    · cases h; decide
    · split at h
      · cases h; decide
      · split at h
        · cases h; decide
        · split at h
          · cases h; decide
          · split at h
            · cases h; decide
            · cases h
theorem goF_err {l : List FT} : ∀ {d : List ET} {out : List (CT × Nat)} {n : Int}, goF decO runO l out d = .error n → n ≠ 0
  | [], out, n, h => by simp [goF] at h
  | e :: d, out, n, h => by
    simp only [goF] at h
    split at h
    · rename_i m hm
      injection h with h
      rw [← h]; exact stepF_err hm
    · exact goF_err h
/-- A refusal has a code. -/
theorem cellsF_err {l : List FT} {d : List ET} {n : Int} (h : cellsF decO runO l d = .error n) : n ≠ 0 := by
  unfold cellsF at h
  split at h
  · cases h; decide
  · split at h
    · cases h; decide
    · cases hg : goF decO runO l [] d with
      | error m => rw [hg] at h; injection h with h; rw [← h]; exact goF_err hg
      | ok o => rw [hg] at h; cases h
theorem codeC_zero {l : List FT} {d : List ET} : codeC (cellsF decO runO l d) = 0 ↔ ∃ r, cellsF decO runO l d = .ok r := by
  cases h : cellsF decO runO l d with
  | error n => exact ⟨fun e => absurd e (cellsF_err h), fun ⟨r, e⟩ => by cases e⟩
  | ok r => exact ⟨fun _ => ⟨r, rfl⟩, fun _ => rfl⟩
end Go.Proofs.YtfckomjbgopmaaaGreatDoor.Sch
end
