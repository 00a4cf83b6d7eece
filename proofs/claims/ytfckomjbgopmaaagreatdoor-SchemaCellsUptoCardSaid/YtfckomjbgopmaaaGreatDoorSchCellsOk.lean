/- Cells that are answered lie in the machine's range. -/
import Derived.Test.YtfckomjbgopmaaaGreatDoorPack18
set_option linter.unusedVariables false
namespace Go.Proofs.YtfckomjbgopmaaaGreatDoor.Sch
open Go.RowKit Words Tree SchP Kit Owned AnaP

theorem fin_i64 {b : Bool} {ds : List UInt8} {n : Int} (h : OrdP.fin b ds = some n) : I64 n := by
  unfold OrdP.fin at h
  unfold I64
  split at h
  · split at h
    · injection h with h; omega
    · cases h
  · split at h
    · injection h with h; omega
    · cases h
theorem decO_i64 {f : FT} {s : ByteArray} {n : Int} (h : decO f s = some n) : I64 n := by
  unfold decO at h
  split at h
  · cases h
  · unfold OrdP.decF at h
    dsimp only at h
    split at h
    · cases h
    · split at h
      · exact fin_i64 h
      · split at h
        · exact fin_i64 h
        · cases h
theorem valueF_ok {f : FT} {k : Nat} {e : ET} {c : CT × Nat} (hk : k ≤ 9223372036854775807) (he : EOk e) (h : valueF decO runO f k e = some c) : COk c.1 := by
  have hkk : I64 (k : Int) := by unfold I64; omega
  unfold valueF at h
  split at h
  · cases hr : runO f e.text with
    | none => rw [hr] at h; cases h
    | some n => rw [hr] at h; cases h; exact ⟨hkk, he.text, ⟨by simp, fun z hz => by cases hz⟩⟩
  · split at h
    · split at h
      · cases h; exact ⟨hkk, he.text, ⟨by simp, fun z hz => by cases hz⟩⟩
      · cases h
    · split at h
      · cases hr : decO f e.text with
        | none => rw [hr] at h; cases h
        | some n =>
          rw [hr] at h; cases h
          refine ⟨hkk, by show (0 : Nat) ≤ _; omega, ⟨by simp, fun z hz => ?_⟩⟩
          have : z = n := by simpa using hz
          subst this
          exact decO_i64 hr
      · cases h; exact ⟨hkk, by show (0 : Nat) ≤ _; omega, he.nums⟩
theorem cellsF_ok {l : List FT} {d : List ET} {r : List CT} (hl : l.length * 72 ≤ 140737488351232) (he : ∀ e ∈ d, EOk e) (h : cellsF decO runO l d = .ok r) : r.length ≤ 64 ∧ ∀ c ∈ r, COk c := by
  obtain ⟨_, h64, cs, hm, rfl, _⟩ := cellsF_iff.1 h
  have hlen : d.length = cs.length := by have := congrArg List.length hm; simpa using this
  refine ⟨by rw [List.length_map]; omega, fun c hc => ?_⟩
  obtain ⟨p, hp, rfl⟩ := List.mem_map.1 hc
  have : some p ∈ d.map (oneF decO runO l) := by rw [hm]; exact List.mem_map_of_mem hp
  obtain ⟨e, hed, ho⟩ := List.mem_map.1 this
  obtain ⟨k, f, g1, g2, _, g4, _⟩ := oneF_field ho
  have hk : k < l.length := (List.getElem?_eq_some_iff.1 g2).1
  exact valueF_ok (by omega) (he e hed) g4
theorem bulk_entries : ∀ d : List ET, ∀ e ∈ d, e.text.size ≤ T.bulkL (d.flatMap ecells)
  | [], e, h => by cases h
  | x :: d, e, h => by
    have h1 : x.text.size ≤ T.bulkL (ecells x) := by simp only [ecells, T.bulkL, T.bulk]; omega
    rw [List.flatMap_cons, bulkL_append]
    rcases List.mem_cons.1 h with rfl | h
    · omega
    · have := bulk_entries d e h; omega
theorem text_bulk {d : List ET} {n : Nat} (h : T.bulkL [entriesT d] ≤ n) : ∀ e ∈ d, e.text.size ≤ n := fun e he => by
  have := bulk_entries d e he
  simp only [entriesT, rowT, T.bulkL, T.bulk] at h
  omega
end Go.Proofs.YtfckomjbgopmaaaGreatDoor.Sch
