/- Contracts: 'Valid' of the program and of the document's answer. -/
import Derived.Test.YtdgmgedecnbmdaaDoorFoldRefNext
import Derived.Test.YtdgmgedecnbmdaaDoorFoldRunesP
namespace Go.Proofs.YtdgmgedecnbmdaaDoor.FoldValid
open Go.RowKit Go.Lib FoldP FoldInts Kit FoldForms FoldNext

def BoolBelow (b : Bool) (w : World) (e : Ending) (w' : World) : Prop := e = .returned (.bool b) ∧ Below w.heap.size w w'
def PairBelow (r n : Nat) (w : World) (e : Ending) (w' : World) : Prop := e = .returned (.tuple #[.int .i32 (r : Int), .int .i64 (n : Int)]) ∧ Below w.heap.size w w'

theorem refNext_at (s : ByteArray) (k : Nat) (w : World) (hs : s.size ≤ 9223372036854775807) (h : k < s.size) (rr nn : Nat) (hd : decodeL (s.data.toList.drop k) = (rr, nn)) :
    Calls Tryd.prog 10 #[.string s, .int .i64 k] w (PairBelow rr nn w) := by
  refine (refNext_any s k w (by unfold maxLen; omega)).mono ?_
  rintro e w' ⟨rfl, hb⟩
  rw [next_in _ k (by simpa using h), hd]
  exact ⟨rfl, hb⟩
theorem next_at (s : ByteArray) (k : Nat) (w : World) (hs : s.size ≤ 9223372036854775807) (hT : Tabs w) (h : k < s.size) (rr nn : Nat) (hd : decodeL (s.data.toList.drop k) = (rr, nn)) :
    Calls Tryd.prog 9 #[.string s, .int .i64 k] w (PairBelow rr nn w) := by
  refine (next_any s k w (by unfold maxLen; omega) hT).mono ?_
  rintro e w' ⟨rfl, hb⟩
  rw [next_in _ k (by simpa using h), hd]
  exact ⟨rfl, hb⟩

/-- 'Valid' of the program. -/
theorem valid_any (s : ByteArray) (w : World) (hs : s.size ≤ 9223372036854775807) (hT : Tabs w) :
    Calls Tryd.prog 11 #[.string s] w (BoolBelow (validD s.data.toList) w) := by
  have HC := Lib.hid (Tryd.utf8_ValidString s w hs hT.1)
  clear hT
  go_enter Tryd.func11, Tryd.ntmps11
  go_wp2_with fail
  refine HC.out.mono ?_
  rintro e w1 ⟨rfl, hb⟩
  have HB := Lib.hid hb; clear hb
  go_wp2_with fail
  go_ret
  exact ⟨rfl, HB.out⟩

set_option maxHeartbeats 1000000 in
/-- 'Valid' of the document's answer. -/
theorem refValid_any (s : ByteArray) (w : World) (hs : s.size ≤ 9223372036854775807) :
    Calls Tryd.prog 12 #[.string s] w (BoolBelow (validD s.data.toList) w) := by
  go_enter Tryd.func12, Tryd.ntmps12
  go_wp2
  go_loopw [3] (fun i wr => ∃ k : Nat, k ≤ s.size ∧ i = .int .i64 k ∧ Hid (validD s.data.toList = validD (s.data.toList.drop k)) ∧ Below w.heap.size w wr) (fun i _ => s.size - (RowKit.intOf i).toNat)
  case atStart => exact ⟨0, Nat.zero_le _, rfl, Lib.hid rfl, Below.refl _ _⟩
  case round =>
    obtain ⟨k, hk, rfl, HV, hbw⟩ := hrel
    have HBW := Lib.hid hbw; clear hbw
    have hlen : s.data.toList.length = s.size := by simp
    by_cases hlt : k < s.size
    · have hst := step_le s.data.toList k (by rw [hlen]; exact hlt)
      have hat := validAt s.data.toList k (by rw [hlen]; exact hlt)
      rw [hlen] at hst
      clear hlen
      cases hdr : decodeL (s.data.toList.drop k) with
      | mk rr nn =>
      have HN := Lib.hid (refNext_at s k wr hs hlt rr nn hdr)
      rw [hdr] at hst hat
      clear hdr
      dsimp only at hst hat
      obtain ⟨hst1, hst2⟩ := hst
      have HAT := Lib.hid hat; clear hat
      by_cases ho : rr = 65533 ∧ nn = 1
      · obtain ⟨rfl, rfl⟩ := ho
        go_wp2_with fail
        refine HN.out.mono ?_
        rintro e w2 ⟨rfl, hb2⟩
        have HB2 := Lib.hid hb2; clear hb2
        go_wp2_with fail
        go_ret
        refine ⟨ret_bool ?_, HBW.out.trans (HB2.out.mono HBW.out.size)⟩
        rw [HV.out, HAT.out]; simp
      · have HO := Lib.hid ho
        go_wp2_with fail
        refine HN.out.mono ?_
        rintro e w2 ⟨rfl, hb2⟩
        have HB2 := Lib.hid hb2; clear hb2
        by_cases h1 : rr = 65533
        · have h2 : ((nn : Int) == 1) = false := by rw [beq_eq_false_iff_ne]; intro e; exact ho ⟨h1, by omega⟩
          subst h1
          clear ho
          go_wp2_with fail
          go_roundw
          case rel => exact ⟨k + nn, hst2, by go_num, by unfold Hid; rw [HV.out, HAT.out, if_neg HO.out], HBW.out.trans (HB2.out.mono HBW.out.size)⟩
          case measure => simp [RowKit.intOf]; omega
        · have h2 : ((rr : Int) == 65533) = false := by rw [beq_eq_false_iff_ne]; omega
          clear ho
          go_wp2_with fail
          go_roundw
          case rel => exact ⟨k + nn, hst2, by go_num, by unfold Hid; rw [HV.out, HAT.out, if_neg HO.out], HBW.out.trans (HB2.out.mono HBW.out.size)⟩
          case measure => simp [RowKit.intOf]; omega
    · obtain rfl : k = s.size := by omega
      go_wp2_with fail
      go_ret
      refine ⟨ret_bool ?_, HBW.out⟩
      rw [HV.out, List.drop_eq_nil_of_le (by rw [hlen]; exact Nat.le_refl _)]; rfl

end Go.Proofs.YtdgmgedecnbmdaaDoor.FoldValid
