/- Contracts: stop words, blanks, filters' numbers: the program's and the document's. -/
import Derived.Test.YtinmiekbhoemjaaGreatDoorPack17
import Derived.Test.YtinmiekbhoemjaaGreatDoorFoldInts
import Derived.Test.YtinmiekbhoemjaaGreatDoorPack10
import Derived.BigGuardPart
import Derived.Outline
set_option linter.unusedVariables false
namespace Go.Proofs.YtinmiekbhoemjaaGreatDoor.Ana
open Go.RowKit Go.Lib AnaP Words Tree Kit Owned

theorem toList_data (s : ByteArray) : s.toList = s.data.toList := ByteArray.toList_eq s
theorem stop_hit {s : ByteArray} {l : List UInt8} (h : s.toList = l) (hl : l ∈ stopWords) : stopF s = true := by
  unfold stopF
  rw [List.contains_iff_mem, ← toList_data, h]; exact hl
theorem stop_miss {s : ByteArray} (h : ∀ l ∈ stopWords, ¬ s.toList = l) : stopF s = false := by
  cases hs : stopF s with
  | false => rfl
  | true =>
    unfold stopF at hs
    rw [List.contains_iff_mem, ← toList_data] at hs
    exact absurd rfl (h _ hs)
set_option maxRecDepth 100000 in
set_option maxHeartbeats 4000000 in
theorem stop_any (s : ByteArray) (w : World) : Calls Tryz.prog 85 #[.string s] w (PureB (stopF s) w) := by
  obtain ⟨r, hr⟩ : ∃ r, stopF s = r := ⟨_, rfl⟩
  rw [hr]
  have HR := Lib.hid hr; clear hr
  go_enter Tryz.func85, Tryz.ntmps85
  go_wp2
  all_goals go_ret
  all_goals refine ⟨?_, rfl⟩
  all_goals rw [← HR.out]
  all_goals first
    | (rw [stop_hit (beq_iff_eq.1 (by assumption)) (by decide)]; rfl)
    | (exfalso; simp_all; done)
    | (rw [stop_miss (by
        intro l hl
        simp only [stopWords, List.mem_cons, List.not_mem_nil, or_false] at hl
        repeat (rcases hl with rfl | hl; exact beq_eq_false_iff_ne.1 (by assumption)))]; rfl)

set_option maxRecDepth 100000 in
set_option maxHeartbeats 1000000 in
theorem blank_any (r : Int) (w : World) : Calls Tryz.prog 94 #[.int .i32 r] w (PureB (blankF r) w) := by
  obtain ⟨b, hb⟩ : ∃ b, blankF r = b := ⟨_, rfl⟩
  rw [hb]
  have HR := Lib.hid hb; clear hb
  go_enter Tryz.func94, Tryz.ntmps94
  go_wp2
  all_goals go_ret
  all_goals (refine ⟨ret_bool ?_, rfl⟩; rw [← HR.out]; unfold blankF; simp_all; try omega)
set_option maxRecDepth 100000 in
set_option maxHeartbeats 1000000 in
theorem refBlank_any (r : Int) (w : World) : Calls Tryz.prog 100 #[.int .i32 r] w (PureB (blankF r) w) := by
  obtain ⟨b, hb⟩ : ∃ b, blankF r = b := ⟨_, rfl⟩
  rw [hb]
  have HR := Lib.hid hb; clear hb
  go_enter Tryz.func100, Tryz.ntmps100
  go_wp2
  all_goals go_ret
  all_goals (refine ⟨ret_bool ?_, rfl⟩; rw [← HR.out]; unfold blankF; simp_all; try omega)
/-- The words as they lie in the document's list. -/
def stopCells : Array Value := (stopWords.map fun l => Value.string ⟨l.toArray⟩).toArray
theorem stopCells_eq : stopCells = #[.string ⟨#[97]⟩, .string ⟨#[97, 110]⟩, .string ⟨#[97, 110, 100]⟩, .string ⟨#[97, 114, 101]⟩, .string ⟨#[97, 115]⟩, .string ⟨#[97, 116]⟩, .string ⟨#[98, 101]⟩, .string ⟨#[98, 117, 116]⟩, .string ⟨#[98, 121]⟩, .string ⟨#[102, 111, 114]⟩, .string ⟨#[105, 102]⟩, .string ⟨#[105, 110]⟩, .string ⟨#[105, 110, 116, 111]⟩, .string ⟨#[105, 115]⟩, .string ⟨#[105, 116]⟩, .string ⟨#[110, 111]⟩, .string ⟨#[110, 111, 116]⟩, .string ⟨#[111, 102]⟩, .string ⟨#[111, 110]⟩, .string ⟨#[111, 114]⟩, .string ⟨#[115, 117, 99, 104]⟩, .string ⟨#[116, 104, 97, 116]⟩, .string ⟨#[116, 104, 101]⟩, .string ⟨#[116, 104, 101, 105, 114]⟩, .string ⟨#[116, 104, 101, 110]⟩, .string ⟨#[116, 104, 101, 114, 101]⟩, .string ⟨#[116, 104, 101, 115, 101]⟩, .string ⟨#[116, 104, 101, 121]⟩, .string ⟨#[116, 104, 105, 115]⟩, .string ⟨#[116, 111]⟩, .string ⟨#[119, 97, 115]⟩, .string ⟨#[119, 105, 108, 108]⟩, .string ⟨#[119, 105, 116, 104]⟩] := rfl
theorem stopCells_get {k : Nat} (h : k < 33) : ∃ l, stopWords[k]? = some l ∧ stopCells[k]? = some (.string ⟨l.toArray⟩) := by
  have hk : k < stopWords.length := h
  refine ⟨stopWords[k], List.getElem?_eq_getElem hk, ?_⟩
  unfold stopCells
  simp [List.getElem?_eq_getElem hk]
theorem stop_ref_hit {s : ByteArray} {l : List UInt8} {k : Nat} (hl : stopWords[k]? = some l) (h : (l == s.toList) = true) : stopF s = true := by
  have := beq_iff_eq.1 h
  exact stop_hit this.symm (List.mem_of_getElem? hl)
set_option maxRecDepth 100000 in
set_option maxHeartbeats 1000000 in
theorem refStop_any (s : ByteArray) (w : World) : Calls Tryz.prog 82 #[.string s] w (BoolB (stopF s) w) := by
  obtain ⟨r, hr⟩ : ∃ r, stopF s = r := ⟨_, rfl⟩
  rw [hr]
  have HR := Lib.hid hr; clear hr
  go_enter Tryz.func82, Tryz.ntmps82
  go_wp2_with fail
  rw [← stopCells_eq]
  have HB : Hid (Blk (w.alloc (.cells stopCells 9)) w.heap.size 9 stopCells) := Lib.hid (Blk.new _ _ _)
  have HW : Hid (Below w.heap.size w (w.alloc (.cells stopCells 9))) := Lib.hid ((Below.refl _ _).alloc (Nat.le_refl _) _)
  generalize w.alloc (.cells stopCells 9) = W at *
  go_loop [4] (fun i => ∃ k : Nat, k ≤ 33 ∧ i = .int .i64 k ∧ Hid (∀ (j : Nat) (l : List UInt8), j < k → stopWords[j]? = some l → ¬ s.toList = l)) (fun i => 33 - (intOf i).toNat)
  case atStart => exact ⟨0, by omega, rfl, Lib.hid (fun j l hj => absurd hj (by omega))⟩
  case round =>
    obtain ⟨k, hk, rfl, HE⟩ := hrel
    by_cases hlt : k < 33
    · obtain ⟨l, hl, hc⟩ := stopCells_get hlt
      have hcell : W.cell? ⟨w.heap.size, k, none⟩ = some (.string ⟨l.toArray⟩) := (HB.out.cell k).trans hc
      have HL := Lib.hid hl; clear hl hc
      cases hb : l == s.toList with
      | true =>
        have HT := Lib.hid (stop_ref_hit HL.out hb)
        go_wp2_with fail
        go_ret
        exact ⟨ret_bool (by rw [← HR.out, HT.out]), HW.out⟩
      | false =>
        have HF : Hid (¬ s.toList = l) := Lib.hid (fun e => by
          have := beq_eq_false_iff_ne.1 hb
          exact this e.symm)
        go_wp2_with fail
        go_round
        case rel => exact ⟨k + 1, by omega, by go_num, Lib.hid (fun j l' hj hl' => by
          rcases Nat.lt_or_ge j k with h | h
          · exact HE.out j l' h hl'
          · obtain rfl : j = k := by omega
            rw [HL.out] at hl'
            cases hl'
            exact HF.out)⟩
        case measure => simp [intOf]; omega
    · obtain rfl : k = 33 := by omega
      have HM : Hid (stopF s = false) := Lib.hid (stop_miss (fun l hl => by
        obtain ⟨j, hj⟩ := List.getElem?_of_mem hl
        exact HE.out j l (by have := (List.getElem?_eq_some_iff.1 hj).1; exact this) hj))
      go_wp2_with fail
      go_ret
      exact ⟨ret_bool (by rw [← HR.out, HM.out]), HW.out⟩
end Go.Proofs.YtinmiekbhoemjaaGreatDoor.Ana
