/- Contracts: the program's and the document's Name. -/
import Derived.Test.YtinmiekbhoemjaaDoorPack2
import Derived.Test.YtinmiekbhoemjaaDoorWords
import Derived.Test.YtinmiekbhoemjaaDoorPack11
import Derived.Test.YtinmiekbhoemjaaDoorProg
import Derived.Lib.Hide
import Derived.Lib.ConvBytes
import Derived.WalkKit
import Derived.ProofKit
import Derived.LoopTactic
set_option linter.unusedVariables false
namespace Go.Proofs.YtinmiekbhoemjaaDoor.Sch
open Go.RowKit Go.Lib Words Kit SchP

/-- A bool is answered. -/
def AnsB (b : Bool) (w : World) (e : Ending) (w' : World) : Prop := e = .returned (.bool b) ∧ Below w.heap.size w w'
theorem below_bytesWorld (w : World) (e : TypeId) (s : ByteArray) : Below w.heap.size w (bytesWorld w e s) := by
  refine ⟨rfl, rfl, rfl, by rw [bytesWorld_size]; omega, fun k hk => bytesWorld_at_old w e s k hk⟩
theorem byteB_cases (i : Nat) (c : UInt8) : byteB i c = true ∧ ((97 ≤ (c.toNat : Int) ∧ (c.toNat : Int) ≤ 122) ∨ (c.toNat : Int) = 95 ∨ ((0 : Int) < i ∧ 48 ≤ (c.toNat : Int) ∧ (c.toNat : Int) ≤ 57))
    ∨ byteB i c = false ∧ ¬ ((97 ≤ (c.toNat : Int) ∧ (c.toNat : Int) ≤ 122) ∨ (c.toNat : Int) = 95 ∨ ((0 : Int) < i ∧ 48 ≤ (c.toNat : Int) ∧ (c.toNat : Int) ≤ 57)) := by
  cases h : byteB i c with
  | true =>
    left
    simp only [byteB, Bool.or_eq_true, Bool.and_eq_true, decide_eq_true_eq] at h
    exact ⟨rfl, by omega⟩
  | false =>
    right
    simp only [byteB, Bool.or_eq_false_iff, Bool.and_eq_false_iff, decide_eq_false_iff_not] at h
    exact ⟨rfl, by omega⟩

set_option maxRecDepth 100000 in
set_option maxHeartbeats 1000000 in
theorem name_any (s : ByteArray) (w : World) (hs : s.size ≤ 140737488351232) : Calls Tryd.prog 37 #[.string s] w (AnsB (nameB s) w) := by
  have hcv := Go.Lib.run_convert_string_bytes (P := Tryd.prog) w 9 43 5 s (u := .string) Tryd.underlying9 Tryd.underlying43 Tryd.underlying5
  have HB := Lib.hid (below_bytesWorld w 5 s)
  have HC := Lib.hid (bytesWorld_cell w 5 s)
  have hz := bytesWorld_size w 5 s
  have hln : s.data.toList.length = s.size := by simp
  obtain ⟨r, hr⟩ : ∃ r, bytesB 0 s.data.toList = r := ⟨_, rfl⟩
  have HR : Hid (bytesB 0 (s.data.toList.drop 0) = r) := Lib.hid hr
  have HN : Hid (nameB s = (r && decide (1 ≤ s.size) && decide (s.size ≤ 24))) := Lib.hid (by rw [nameB, hr])
  clear hr
  generalize bytesWorld w 5 s = W at *
  go_enter Tryd.func37, Tryd.ntmps37
  go_wp2_with fail
  go_loop [3, 4, 8] (fun _ _ i => ∃ k : Nat, k ≤ s.size ∧ i = .int .i64 k ∧ Hid (bytesB k (s.data.toList.drop k) = r)) (fun _ _ i => s.size - (RowKit.intOf i).toNat)
  case atStart => exact ⟨0, by omega, rfl, HR⟩
  case round =>
    obtain ⟨k, hk, rfl, HE⟩ := hrel
    by_cases hlt : k < s.size
    · have hc := HC.out k hlt
      have HS : Hid (bytesB k (s.data.toList.drop k) = (byteB k (s.data.toList.getD k 0) && bytesB (k + 1) (s.data.toList.drop (k + 1)))) := Lib.hid (by rw [bytesB_step (by omega), List.getD_eq_getElem?_getD, List.getElem?_eq_getElem (by omega)]; rfl)
      have hcs := byteB_cases k (s.data.toList.getD k 0)
      have hlc := (s.data.toList.getD k 0).toNat_lt
      have hc2 : W.cell? ⟨w.heap.size, 0 + k, none⟩ = some (.int .u8 (s.data.toList.getD k 0).toNat) := by rw [Nat.zero_add]; exact hc
      generalize s.data.toList.getD k 0 = c at *
      generalize hcn : c.toNat = n at *
      rcases hcs with ⟨hb, hcs⟩ | ⟨hb, hcs⟩
      · have HE2 : Hid (bytesB (k + 1) (s.data.toList.drop (k + 1)) = r) := Lib.hid (by rw [← HE.out, HS.out, hb]; rfl)
        clear hb HS
        rcases (show (97 ≤ (n : Int) ∧ (n : Int) ≤ 122) ∨ (n : Int) = 95 ∨ ((n : Int) < 95 ∧ (0 : Int) < k ∧ 48 ≤ (n : Int) ∧ (n : Int) ≤ 57) by omega) with ⟨h1, h2⟩ | h1 | ⟨h0', h1, h2, h3⟩
        · have d1 : decide (97 ≤ (n : Int)) = true := by simpa using h1
          have d2 : decide ((n : Int) ≤ 122) = true := by simpa using h2
          go_wp2_with fail
          go_round
          case rel => exact ⟨k + 1, by omega, by go_num, HE2⟩
          case measure => simp [RowKit.intOf]; omega
        · have d1 : decide (97 ≤ (n : Int)) = false := by rw [decide_eq_false_iff_not]; omega
          have d2 : ((n : Int) == 95) = true := by rw [h1]; rfl
          go_wp2_with fail
          go_round
          case rel => exact ⟨k + 1, by omega, by go_num, HE2⟩
          case measure => simp [RowKit.intOf]; omega
        · have d1 : decide (97 ≤ (n : Int)) = false := by rw [decide_eq_false_iff_not]; omega
          have d2 : ((n : Int) == 95) = false := by rw [beq_eq_false_iff_ne]; omega
          have d3 : decide ((0 : Int) < k) = true := by simpa using h1
          have d4 : decide (48 ≤ (n : Int)) = true := by simpa using h2
          have d5 : decide ((n : Int) ≤ 57) = true := by simpa using h3
          go_wp2_with fail
          go_round
          case rel => exact ⟨k + 1, by omega, by go_num, HE2⟩
          case measure => simp [RowKit.intOf]; omega
      · have HA : Hid (nameB s = false) := Lib.hid (by rw [HN.out, ← HE.out, HS.out, hb]; rfl)
        clear hb HS
        rcases (show ((n : Int) < 97 ∧ (n : Int) ≠ 95 ∧ (k : Int) ≤ 0) ∨ ((n : Int) < 97 ∧ (n : Int) ≠ 95 ∧ 0 < k ∧ (n : Int) < 48) ∨ ((n : Int) < 97 ∧ (n : Int) ≠ 95 ∧ 0 < k ∧ 57 < (n : Int)) ∨ (122 < (n : Int) ∧ (k : Int) ≤ 0) ∨ (122 < (n : Int) ∧ 0 < k) by omega) with ⟨q1, q2, q3⟩ | ⟨q1, q2, q3, q4⟩ | ⟨q1, q2, q3, q4⟩ | ⟨q1, q2⟩ | ⟨q1, q2⟩
        · have d1 : decide (97 ≤ (n : Int)) = false := by rw [decide_eq_false_iff_not]; omega
          have d3 : ((n : Int) == 95) = false := by rw [beq_eq_false_iff_ne]; omega
          have d4 : decide ((0 : Int) < k) = false := by rw [decide_eq_false_iff_not]; omega
          go_wp2_with fail
          go_ret
          rw [HA.out]; exact ⟨rfl, HB.out⟩
        · have d1 : decide (97 ≤ (n : Int)) = false := by rw [decide_eq_false_iff_not]; omega
          have d3 : ((n : Int) == 95) = false := by rw [beq_eq_false_iff_ne]; omega
          have d4 : decide ((0 : Int) < k) = true := by rw [decide_eq_true_iff]; omega
          have d5 : decide (48 ≤ (n : Int)) = false := by rw [decide_eq_false_iff_not]; omega
          go_wp2_with fail
          go_ret
          rw [HA.out]; exact ⟨rfl, HB.out⟩
        · have d1 : decide (97 ≤ (n : Int)) = false := by rw [decide_eq_false_iff_not]; omega
          have d3 : ((n : Int) == 95) = false := by rw [beq_eq_false_iff_ne]; omega
          have d4 : decide ((0 : Int) < k) = true := by rw [decide_eq_true_iff]; omega
          have d5 : decide (48 ≤ (n : Int)) = true := by rw [decide_eq_true_iff]; omega
          have d6 : decide ((n : Int) ≤ 57) = false := by rw [decide_eq_false_iff_not]; omega
          go_wp2_with fail
          go_ret
          rw [HA.out]; exact ⟨rfl, HB.out⟩
        · have d1 : decide (97 ≤ (n : Int)) = true := by rw [decide_eq_true_iff]; omega
          have d2 : decide ((n : Int) ≤ 122) = false := by rw [decide_eq_false_iff_not]; omega
          have d3 : ((n : Int) == 95) = false := by rw [beq_eq_false_iff_ne]; omega
          have d4 : decide ((0 : Int) < k) = false := by rw [decide_eq_false_iff_not]; omega
          go_wp2_with fail
          go_ret
          rw [HA.out]; exact ⟨rfl, HB.out⟩
        · have d1 : decide (97 ≤ (n : Int)) = true := by rw [decide_eq_true_iff]; omega
          have d2 : decide ((n : Int) ≤ 122) = false := by rw [decide_eq_false_iff_not]; omega
          have d3 : ((n : Int) == 95) = false := by rw [beq_eq_false_iff_ne]; omega
          have d4 : decide ((0 : Int) < k) = true := by rw [decide_eq_true_iff]; omega
          have d5 : decide (48 ≤ (n : Int)) = true := by rw [decide_eq_true_iff]; omega
          have d6 : decide ((n : Int) ≤ 57) = false := by rw [decide_eq_false_iff_not]; omega
          go_wp2_with fail
          go_ret
          rw [HA.out]; exact ⟨rfl, HB.out⟩
    · obtain rfl : k = s.size := by omega
      have HF : Hid (r = true) := Lib.hid (by rw [← HE.out, ← hln, List.drop_length]; rfl)
      have hlt2 : ¬ s.size < s.size := by omega
      by_cases h1 : 1 ≤ s.size
      · by_cases h2 : s.size ≤ 24
        · have HA : Hid (nameB s = true) := Lib.hid (by rw [HN.out, HF.out, decide_eq_true h1, decide_eq_true h2]; rfl)
          have d1 : decide (1 ≤ (s.size : Int)) = true := by rw [decide_eq_true_iff]; omega
          have d2 : decide ((s.size : Int) ≤ 24) = true := by rw [decide_eq_true_iff]; omega
          go_wp2_with fail
          go_ret
          rw [HA.out]; exact ⟨rfl, HB.out⟩
        · have HA : Hid (nameB s = false) := Lib.hid (by rw [HN.out, HF.out, decide_eq_true h1, decide_eq_false h2]; rfl)
          have d1 : decide (1 ≤ (s.size : Int)) = true := by rw [decide_eq_true_iff]; omega
          have d2 : decide ((s.size : Int) ≤ 24) = false := by rw [decide_eq_false_iff_not]; omega
          go_wp2_with fail
          go_ret
          rw [HA.out]; exact ⟨rfl, HB.out⟩
      · have HA : Hid (nameB s = false) := Lib.hid (by rw [HN.out, HF.out, decide_eq_false h1]; rfl)
        have d1 : decide (1 ≤ (s.size : Int)) = false := by rw [decide_eq_false_iff_not]; omega
        go_wp2_with fail
        go_ret
        rw [HA.out]; exact ⟨rfl, HB.out⟩
set_option maxRecDepth 100000 in
set_option maxHeartbeats 1000000 in
theorem refName_any (s : ByteArray) (w : World) (hs : s.size ≤ 140737488351232) : Calls Tryd.prog 72 #[.string s] w (AnsB (nameB s) w) := by
  have hln : s.data.toList.length = s.size := by simp
  obtain ⟨r, hr⟩ : ∃ r, bytesB 0 s.data.toList = r := ⟨_, rfl⟩
  have HR : Hid (bytesB 0 (s.data.toList.drop 0) = r) := Lib.hid hr
  have HN : Hid (nameB s = (r && decide (1 ≤ s.size) && decide (s.size ≤ 24))) := Lib.hid (by rw [nameB, hr])
  clear hr
  go_enter Tryd.func72, Tryd.ntmps72
  go_wp2_with fail
  go_loop [3, 4] (fun i _ => ∃ k : Nat, k ≤ s.size ∧ i = .int .i64 k ∧ Hid (bytesB k (s.data.toList.drop k) = r)) (fun i _ => s.size - (RowKit.intOf i).toNat)
  case atStart => exact ⟨0, by omega, rfl, HR⟩
  case round =>
    obtain ⟨k, hk, rfl, HE⟩ := hrel
    by_cases hlt : k < s.size
    · have HS : Hid (bytesB k (s.data.toList.drop k) = (byteB k s[k] && bytesB (k + 1) (s.data.toList.drop (k + 1)))) := Lib.hid (by rw [bytesB_step (by omega)]; rfl)
      have hcs := byteB_cases k s[k]
      have hlc := (s[k]).toNat_lt
      rcases hcs with ⟨hb, hcs⟩ | ⟨hb, hcs⟩
      · have HE2 : Hid (bytesB (k + 1) (s.data.toList.drop (k + 1)) = r) := Lib.hid (by rw [← HE.out, HS.out, hb]; rfl)
        clear hb HS
        rcases (show (97 ≤ ((s[k]).toNat : Int) ∧ ((s[k]).toNat : Int) ≤ 122) ∨ (((s[k]).toNat : Int) = 95) ∨ (((s[k]).toNat : Int) < 95 ∧ (0 : Int) < k ∧ 48 ≤ ((s[k]).toNat : Int) ∧ ((s[k]).toNat : Int) ≤ 57) by omega) with ⟨h1, h2⟩ | h1 | ⟨h0', h1, h2, h3⟩
        · have e1 : decide (48 ≤ ((s[k]).toNat : Int)) = true := by rw [decide_eq_true_iff]; omega
          have e2 : decide (((s[k]).toNat : Int) ≤ 57) = false := by rw [decide_eq_false_iff_not]; omega
          have e3 : decide (97 ≤ ((s[k]).toNat : Int)) = true := by rw [decide_eq_true_iff]; omega
          have e4 : decide (((s[k]).toNat : Int) ≤ 122) = true := by rw [decide_eq_true_iff]; omega
          go_wp2_with fail
          go_round
          case rel => exact ⟨k + 1, by omega, by go_num, HE2⟩
          case measure => simp [RowKit.intOf]; omega
        · have e1 : decide (48 ≤ ((s[k]).toNat : Int)) = true := by rw [decide_eq_true_iff]; omega
          have e2 : decide (((s[k]).toNat : Int) ≤ 57) = false := by rw [decide_eq_false_iff_not]; omega
          have e3 : decide (97 ≤ ((s[k]).toNat : Int)) = false := by rw [decide_eq_false_iff_not]; omega
          have e5 : (((s[k]).toNat : Int) != 95) = false := by rw [bne_eq_false_iff_eq]; omega
          go_wp2_with fail
          go_round
          case rel => exact ⟨k + 1, by omega, by go_num, HE2⟩
          case measure => simp [RowKit.intOf]; omega
        · have e1 : decide (48 ≤ ((s[k]).toNat : Int)) = true := by rw [decide_eq_true_iff]; omega
          have e2 : decide (((s[k]).toNat : Int) ≤ 57) = true := by rw [decide_eq_true_iff]; omega
          have e3 : decide (97 ≤ ((s[k]).toNat : Int)) = false := by rw [decide_eq_false_iff_not]; omega
          have e5 : (((s[k]).toNat : Int) != 95) = true := by rw [bne_iff_ne]; omega
          have e6 : ((k : Int) == 0) = false := by rw [beq_eq_false_iff_ne]; omega
          go_wp2_with fail
          go_round
          case rel => exact ⟨k + 1, by omega, by go_num, HE2⟩
          case measure => simp [RowKit.intOf]; omega
      · have HA : Hid (nameB s = false) := Lib.hid (by rw [HN.out, ← HE.out, HS.out, hb]; rfl)
        clear hb HS
        rcases (show (((s[k]).toNat : Int) < 48 ∧ ((s[k]).toNat : Int) ≠ 95) ∨ (48 ≤ ((s[k]).toNat : Int) ∧ ((s[k]).toNat : Int) ≤ 57 ∧ (k : Int) ≤ 0) ∨ (57 < ((s[k]).toNat : Int) ∧ ((s[k]).toNat : Int) < 97 ∧ ((s[k]).toNat : Int) ≠ 95) ∨ (122 < ((s[k]).toNat : Int)) by omega) with ⟨q1, q2⟩ | ⟨q1, q2, q3⟩ | ⟨q1, q2, q3⟩ | q1
        · have e1 : decide (48 ≤ ((s[k]).toNat : Int)) = false := by rw [decide_eq_false_iff_not]; omega
          have e3 : decide (97 ≤ ((s[k]).toNat : Int)) = false := by rw [decide_eq_false_iff_not]; omega
          have e5 : (((s[k]).toNat : Int) != 95) = true := by rw [bne_iff_ne]; omega
          go_wp2_with fail
          go_ret
          rw [HA.out]; exact ⟨rfl, Below.refl _ _⟩
        · have e1 : decide (48 ≤ ((s[k]).toNat : Int)) = true := by rw [decide_eq_true_iff]; omega
          have e2 : decide (((s[k]).toNat : Int) ≤ 57) = true := by rw [decide_eq_true_iff]; omega
          have e3 : decide (97 ≤ ((s[k]).toNat : Int)) = false := by rw [decide_eq_false_iff_not]; omega
          have e5 : (((s[k]).toNat : Int) != 95) = true := by rw [bne_iff_ne]; omega
          have e6 : ((k : Int) == 0) = true := by rw [beq_iff_eq]; omega
          go_wp2_with fail
          go_ret
          rw [HA.out]; exact ⟨rfl, Below.refl _ _⟩
        · have e1 : decide (48 ≤ ((s[k]).toNat : Int)) = true := by rw [decide_eq_true_iff]; omega
          have e2 : decide (((s[k]).toNat : Int) ≤ 57) = false := by rw [decide_eq_false_iff_not]; omega
          have e3 : decide (97 ≤ ((s[k]).toNat : Int)) = false := by rw [decide_eq_false_iff_not]; omega
          have e5 : (((s[k]).toNat : Int) != 95) = true := by rw [bne_iff_ne]; omega
          go_wp2_with fail
          go_ret
          rw [HA.out]; exact ⟨rfl, Below.refl _ _⟩
        · have e1 : decide (48 ≤ ((s[k]).toNat : Int)) = true := by rw [decide_eq_true_iff]; omega
          have e2 : decide (((s[k]).toNat : Int) ≤ 57) = false := by rw [decide_eq_false_iff_not]; omega
          have e3 : decide (97 ≤ ((s[k]).toNat : Int)) = true := by rw [decide_eq_true_iff]; omega
          have e4 : decide (((s[k]).toNat : Int) ≤ 122) = false := by rw [decide_eq_false_iff_not]; omega
          have e5 : (((s[k]).toNat : Int) != 95) = true := by rw [bne_iff_ne]; omega
          go_wp2_with fail
          go_ret
          rw [HA.out]; exact ⟨rfl, Below.refl _ _⟩
    · obtain rfl : k = s.size := by omega
      have HF : Hid (r = true) := Lib.hid (by rw [← HE.out, ← hln, List.drop_length]; rfl)
      have hlt2 : ¬ s.size < s.size := by omega
      by_cases h1 : 1 ≤ s.size
      · by_cases h2 : s.size ≤ 24
        · have HA : Hid (nameB s = true) := Lib.hid (by rw [HN.out, HF.out, decide_eq_true h1, decide_eq_true h2]; rfl)
          have d1 : decide (1 ≤ (s.size : Int)) = true := by rw [decide_eq_true_iff]; omega
          have d2 : decide ((s.size : Int) ≤ 24) = true := by rw [decide_eq_true_iff]; omega
          go_wp2_with fail
          go_ret
          rw [HA.out]; exact ⟨rfl, Below.refl _ _⟩
        · have HA : Hid (nameB s = false) := Lib.hid (by rw [HN.out, HF.out, decide_eq_true h1, decide_eq_false h2]; rfl)
          have d1 : decide (1 ≤ (s.size : Int)) = true := by rw [decide_eq_true_iff]; omega
          have d2 : decide ((s.size : Int) ≤ 24) = false := by rw [decide_eq_false_iff_not]; omega
          go_wp2_with fail
          go_ret
          rw [HA.out]; exact ⟨rfl, Below.refl _ _⟩
      · have HA : Hid (nameB s = false) := Lib.hid (by rw [HN.out, HF.out, decide_eq_false h1]; rfl)
        have d1 : decide (1 ≤ (s.size : Int)) = false := by rw [decide_eq_false_iff_not]; omega
        go_wp2_with fail
        go_ret
        rw [HA.out]; exact ⟨rfl, Below.refl _ _⟩
end Go.Proofs.YtinmiekbhoemjaaDoor.Sch
