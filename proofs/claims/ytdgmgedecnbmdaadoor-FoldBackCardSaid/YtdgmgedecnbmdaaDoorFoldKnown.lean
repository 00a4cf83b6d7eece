/- Contract: 'known' of the statements: the answers that the document names are given. -/
import Derived.Test.YtdgmgedecnbmdaaDoorFoldTextsWalk
namespace Go.Proofs.YtdgmgedecnbmdaaDoor.FoldLaws
open Go.RowKit Go.Lib FoldP FoldInts Kit FoldForms FoldNext FoldIter FoldValid FoldRefFold FoldFold FoldPut

theorem kn1 : nextF [97, 195, 169] 1 = (233, 2) := by decide +kernel
theorem kn2 : nextF [237, 160, 128] 0 = (65533, 1) := by decide +kernel
theorem kp1 : putS 1114111 = [244, 143, 191, 191] := by decide +kernel
theorem kp2 : putE 1114111 = 0 := by decide +kernel
theorem kp3 : putS 55296 = [] := by decide +kernel
theorem kp4 : putE 55296 = 50 := by decide +kernel
theorem kl1 : lowerF 1046 = 1078 := by decide +kernel
theorem kl2 : lowerF 376 = 255 := by decide +kernel
theorem kc1 : letterF 20013 = true := by decide +kernel
theorem kc2 : letterF 53 = false := by decide +kernel
theorem kd1 : digitF 1637 = true := by decide +kernel
theorem km1 : markF 769 = true := by decide +kernel
theorem kf1 : foldL [195, 128, 66, 55, 33, 255] = [195, 160, 98, 55, 33, 255] := by decide +kernel

def PairIs (r n : Int) (w : World) (e : Ending) (w' : World) : Prop := e = .returned (.tuple #[.int .i32 r, .int .i64 n]) ∧ Below w.heap.size w w'
def PutIs (l : Array UInt8) (n : Int) (w : World) (e : Ending) (w' : World) : Prop := e = .returned (.tuple #[.string ⟨l⟩, .int .i64 n]) ∧ Below w.heap.size w w'
def StrIs (l : Array UInt8) (w : World) (e : Ending) (w' : World) : Prop := e = .returned (.string ⟨l⟩) ∧ Below w.heap.size w w'

theorem k1 (w : World) (hT : Tabs w) : Calls Tryd.prog 9 #[.string ⟨#[97, 195, 169]⟩, .int .i64 1] w (PairIs 233 2 w) := by
  refine (next_any ⟨#[97, 195, 169]⟩ 1 w (by unfold maxLen; decide) hT).mono fun e w' h => ?_
  have h' : NextRet [97, 195, 169] 1 w e w' := h
  unfold NextRet at h'; rw [kn1] at h'; exact h'
theorem k2 (w : World) (hT : Tabs w) : Calls Tryd.prog 9 #[.string ⟨#[237, 160, 128]⟩, .int .i64 0] w (PairIs 65533 1 w) := by
  refine (next_any ⟨#[237, 160, 128]⟩ 0 w (by unfold maxLen; decide) hT).mono fun e w' h => ?_
  have h' : NextRet [237, 160, 128] 0 w e w' := h
  unfold NextRet at h'; rw [kn2] at h'; exact h'
theorem k3 (w : World) : Calls Tryd.prog 18 #[.int .i32 1114111] w (PutIs #[244, 143, 191, 191] 0 w) := by
  refine (put_any 1114111 (by decide) (by decide) w).mono fun e w' h => ?_
  unfold PutRet at h; rw [kp1, kp2] at h; exact h
theorem k4 (w : World) : Calls Tryd.prog 18 #[.int .i32 55296] w (PutIs #[] 50 w) := by
  refine (put_any 55296 (by decide) (by decide) w).mono fun e w' h => ?_
  unfold PutRet at h; rw [kp3, kp4] at h; exact h
theorem k5 (w : World) : Calls Tryd.prog 19 #[.int .i32 1046] w (fun e w' => e = .returned (.int .i32 1078) ∧ w = w') := by
  refine (lower_any 1046 w).mono fun e w' h => ?_
  unfold LowRet at h; rw [kl1] at h; exact h
theorem k6 (w : World) : Calls Tryd.prog 19 #[.int .i32 376] w (fun e w' => e = .returned (.int .i32 255) ∧ w = w') := by
  refine (lower_any 376 w).mono fun e w' h => ?_
  unfold LowRet at h; rw [kl2] at h; exact h
theorem k7 (w : World) : Calls Tryd.prog 20 #[.int .i32 20013] w (BoolRet true w) := by
  have h := letter_any 20013 w; rw [kc1] at h; exact h
theorem k8 (w : World) : Calls Tryd.prog 20 #[.int .i32 53] w (BoolRet false w) := by
  have h := letter_any 53 w; rw [kc2] at h; exact h
theorem k9 (w : World) : Calls Tryd.prog 21 #[.int .i32 1637] w (BoolRet true w) := by
  have h := digit_any 1637 w; rw [kd1] at h; exact h
theorem k10 (w : World) : Calls Tryd.prog 22 #[.int .i32 769] w (BoolRet true w) := by
  have h := mark_any 769 w; rw [km1] at h; exact h
theorem k11 (w : World) (hT : Tabs w) : Calls Tryd.prog 15 #[.string ⟨#[195, 128, 66, 55, 33, 255]⟩] w (StrIs #[195, 160, 98, 55, 33, 255] w) := by
  refine (fold_any ⟨#[195, 128, 66, 55, 33, 255]⟩ w (by decide) hT).mono fun e w' h => ?_
  have h' : StrBelow (foldL [195, 128, 66, 55, 33, 255]) w e w' := h
  rw [kf1] at h'; exact h'

set_option maxRecDepth 100000 in
set_option maxHeartbeats 1000000 in
theorem known_any (w : World) (hT : Tabs w) : Calls Tryd.prog 17 #[] w (TrueBelow w) := by
  have HT := Lib.hid hT; clear hT
  go_enter Tryd.func17, Tryd.ntmps17
  go_wp2_with fail
  refine (k1 _ HT.out).mono ?_
  rintro e w1 ⟨rfl, hb⟩
  have T1 := Lib.hid (HT.out.next hb)
  have B1 := Lib.hid hb; clear hb
  go_wp2_with fail
  refine (k2 _ T1.out).mono ?_
  rintro e w2 ⟨rfl, hb⟩
  have T2 := Lib.hid (T1.out.next hb)
  have B2 := Lib.hid (B1.out.trans (hb.mono B1.out.size)); clear hb
  go_wp2_with fail
  refine (k3 _).mono ?_
  rintro e w3 ⟨rfl, hb⟩
  have T3 := Lib.hid (T2.out.next hb)
  have B3 := Lib.hid (B2.out.trans (hb.mono B2.out.size)); clear hb
  go_wp2_with fail
  refine (k4 _).mono ?_
  rintro e w4 ⟨rfl, hb⟩
  have T4 := Lib.hid (T3.out.next hb)
  have B4 := Lib.hid (B3.out.trans (hb.mono B3.out.size)); clear hb
  go_wp2_with fail
  refine (k5 _).mono ?_
  rintro e w' ⟨rfl, rfl⟩
  go_wp2_with fail
  refine (k6 _).mono ?_
  rintro e w' ⟨rfl, rfl⟩
  go_wp2_with fail
  refine (k7 _).mono ?_
  rintro e w' ⟨rfl, rfl⟩
  go_wp2_with fail
  refine (k8 _).mono ?_
  rintro e w' ⟨rfl, rfl⟩
  go_wp2_with fail
  refine (k9 _).mono ?_
  rintro e w' ⟨rfl, rfl⟩
  go_wp2_with fail
  refine (k10 _).mono ?_
  rintro e w' ⟨rfl, rfl⟩
  go_wp2_with fail
  refine (k11 _ T4.out).mono ?_
  rintro e w5 ⟨rfl, hb⟩
  have B5 := Lib.hid (B4.out.trans (hb.mono B4.out.size)); clear hb
  go_wp2_with fail
  go_ret
  exact ⟨rfl, B5.out⟩
end Go.Proofs.YtdgmgedecnbmdaaDoor.FoldLaws
