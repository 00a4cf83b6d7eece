/- The walk of OrderKnown (printed by gen_known.py). -/
import Derived.Test.YtebagmiclfhelaaDoorOrdAwake2
import Derived.Test.YtebagmiclfhelaaDoorOrdKeys
set_option linter.unusedVariables false
namespace Go.Proofs.YtebagmiclfhelaaDoor.OrderKnownWalk
open Go.RowKit Go.Lib OrdP Kit OrdRef OrdLib Words Owned

set_option maxRecDepth 100000 in
theorem bad_true (l : List UInt8) (w : World) (hl : l.length ≤ 4194304) (h : keysF l = none) : Calls Tryd.prog 20 #[.string (str l)] w (BoolB true w) := by
  have HC := keys_any l hl w
  unfold KeysRet at HC
  rw [h] at HC
  have HC := Lib.hid HC
  clear h
  generalize str l = s at *
  go_enter Tryd.func20, Tryd.ntmps20
  go_wp2_with fail
  refine HC.out.mono ?_
  rintro e w2 ⟨hb, rfl⟩
  have HB := Lib.hid hb; clear hb
  go_wp2_with fail
  go_ret
  exact ⟨ret_bool (by simp), HB.out⟩
theorem keys_some (l : List UInt8) (ks : List KeyD) (w : World) (hl : l.length ≤ 4194304) (h : keysF l = some ks) (hk : ks ≠ []) :
    Calls Tryd.prog 19 #[.string (str l)] w (fun e w' => (∃ g, e = .returned (.tuple #[.slice (some ⟨g, 0, none⟩) ks.length ks.length, .int .i64 0])) ∧ Below w.heap.size w w') := by
  refine (keys_any l hl w).mono ?_
  rintro e w2 ⟨hb, h2⟩
  rw [h] at h2
  obtain ⟨v, rfl, hv⟩ := h2
  rcases hv with ⟨h0, _⟩ | ⟨g, cur, rfl, _⟩
  · exact absurd h0 hk
  · exact ⟨⟨g, rfl⟩, hb⟩
theorem keys_none (w : World) : Calls Tryd.prog 19 #[.string ⟨#[]⟩] w (fun e w' => (∃ ao, e = .returned (.tuple #[.slice ao 0 0, .int .i64 0])) ∧ Below w.heap.size w w') := by
  refine (keys_any [] (by simp) w).mono ?_
  rintro e w2 ⟨hb, h2⟩
  rw [keysF_nil] at h2
  obtain ⟨v, rfl, hv⟩ := h2
  rcases hv with ⟨_, rfl⟩ | ⟨g, cur, rfl, _⟩
  · exact ⟨⟨_, rfl⟩, hb⟩
  · exact ⟨⟨_, rfl⟩, hb⟩
theorem right_val (k : KeyD) (b : Bool) (w : World) (h : rightF k = b) : Calls Tryd.prog 22 #[k.v] w (BoolB b w) := by
  rw [← h]; exact right_any k w
theorem bytes_wrong (k : KeyD) (w : World) (hs : k.text.size ≤ 1000) (hr : rightF k = false) :
    Calls Tryd.prog 18 #[.slice (some ⟨w.heap.size, 0, none⟩) 1 1] (w.alloc (.cells #[.int .i64 k.kind, .int .i64 k.num, .string k.text] 35)) (fun e w' => e = .returned (.tuple #[.string ⟨#[]⟩, .int .i64 1]) ∧ Below w.heap.size w w') := by
  have hk : KeysAt (w.alloc (.cells #[.int .i64 k.kind, .int .i64 k.num, .string k.text] 35)) w.heap.size [k] := by
    intro i k' hk
    cases i with
    | zero =>
      simp only [List.getElem?_cons_zero, Option.some.injEq] at hk
      subst hk
      exact ⟨by rw [World.cell?_alloc_new]; rfl, by rw [World.cell?_alloc_new]; rfl, by rw [World.cell?_alloc_new]; rfl⟩
    | succ i => simp at hk
  refine (bytes_any (some ⟨w.heap.size, 0, none⟩) 1 [k] _ (keysAt_reads (by simp) hk) (by simp [sumT]; omega) (by simp)).mono ?_
  rintro e w2 ⟨h1, h2⟩
  rw [if_neg (by simp [hr])] at h1
  exact ⟨h1, ((Below.refl _ w).alloc (Nat.le_refl _) _).trans (h2.mono (by simp))⟩
def two (P : Prop) (w w' : World) : Prop := P ∧ Below w.heap.size w w'
theorem k1 : decN (ByteArray.mk #[45, 48, 46, 48, 55]).data.toList 2 = -7 := by decide +kernel
theorem k2 : decE (ByteArray.mk #[45, 48, 46, 48, 55]).data.toList 2 = 0 := by decide +kernel
theorem k3 : decN (ByteArray.mk #[55]).data.toList 0 = 7 := by decide +kernel
theorem k4 : decE (ByteArray.mk #[55]).data.toList 0 = 0 := by decide +kernel
theorem k5 : decN (ByteArray.mk #[45, 48]).data.toList 3 = 0 := by decide +kernel
theorem k6 : decE (ByteArray.mk #[45, 48]).data.toList 3 = 0 := by decide +kernel
theorem k7 : decN (ByteArray.mk #[57, 50, 50, 51, 51, 55, 50, 48, 51, 54, 56, 53, 52, 55, 55, 53, 56, 48, 55]).data.toList 0 = 9223372036854775807 := by decide +kernel
theorem k8 : decE (ByteArray.mk #[57, 50, 50, 51, 51, 55, 50, 48, 51, 54, 56, 53, 52, 55, 55, 53, 56, 48, 55]).data.toList 0 = 0 := by decide +kernel
theorem k9 : decN (ByteArray.mk #[45, 57, 50, 50, 51, 51, 55, 50, 48, 51, 54, 56, 53, 52, 55, 55, 53, 56, 48, 56]).data.toList 0 = -9223372036854775808 := by decide +kernel
theorem k10 : decE (ByteArray.mk #[45, 57, 50, 50, 51, 51, 55, 50, 48, 51, 54, 56, 53, 52, 55, 55, 53, 56, 48, 56]).data.toList 0 = 0 := by decide +kernel
theorem k11 : decN (ByteArray.mk #[49, 46, 50, 51, 52]).data.toList 2 = 0 := by decide +kernel
theorem k12 : decE (ByteArray.mk #[49, 46, 50, 51, 52]).data.toList 2 = 70 := by decide +kernel
theorem k13 : decN (ByteArray.mk #[46, 53]).data.toList 2 = 0 := by decide +kernel
theorem k14 : decE (ByteArray.mk #[46, 53]).data.toList 2 = 70 := by decide +kernel
theorem k15 : decN (ByteArray.mk #[53, 46]).data.toList 2 = 0 := by decide +kernel
theorem k16 : decE (ByteArray.mk #[53, 46]).data.toList 2 = 70 := by decide +kernel
theorem k17 : decN (ByteArray.mk #[55, 46, 48]).data.toList 0 = 0 := by decide +kernel
theorem k18 : decE (ByteArray.mk #[55, 46, 48]).data.toList 0 = 70 := by decide +kernel
theorem k19 : decN (ByteArray.mk #[]).data.toList 2 = 0 := by decide +kernel
theorem k20 : decE (ByteArray.mk #[]).data.toList 2 = 70 := by decide +kernel
theorem k21 : decN (ByteArray.mk #[57, 50, 50, 51, 51, 55, 50, 48, 51, 54, 56, 53, 52, 55, 55, 53, 56, 48, 56]).data.toList 0 = 0 := by decide +kernel
theorem k22 : decE (ByteArray.mk #[57, 50, 50, 51, 51, 55, 50, 48, 51, 54, 56, 53, 52, 55, 55, 53, 56, 48, 56]).data.toList 0 = 70 := by decide +kernel
theorem k23 : decN (ByteArray.mk #[57, 50, 50, 51, 51, 55, 50, 48, 51, 54, 56, 53, 52, 55, 55, 53, 56, 46, 48, 56]).data.toList 2 = 0 := by decide +kernel
theorem k24 : decE (ByteArray.mk #[57, 50, 50, 51, 51, 55, 50, 48, 51, 54, 56, 53, 52, 55, 55, 53, 56, 46, 48, 56]).data.toList 2 = 70 := by decide +kernel
theorem k25 : decN (ByteArray.mk #[45]).data.toList 0 = 0 := by decide +kernel
theorem k26 : decE (ByteArray.mk #[45]).data.toList 0 = 70 := by decide +kernel
theorem k27 : decN (ByteArray.mk #[49, 32]).data.toList 0 = 0 := by decide +kernel
theorem k28 : decE (ByteArray.mk #[49, 32]).data.toList 0 = 70 := by decide +kernel
theorem k29 : decN (ByteArray.mk #[48, 48, 48, 48, 48, 48, 48, 48, 48, 48, 48, 48, 48, 48, 48, 48, 48, 48, 48, 48]).data.toList 0 = 0 := by decide +kernel
theorem k30 : decE (ByteArray.mk #[48, 48, 48, 48, 48, 48, 48, 48, 48, 48, 48, 48, 48, 48, 48, 48, 48, 48, 48, 48]).data.toList 0 = 70 := by decide +kernel
theorem k31 : decN (ByteArray.mk #[43, 49]).data.toList 0 = 0 := by decide +kernel
theorem k32 : decE (ByteArray.mk #[43, 49]).data.toList 0 = 70 := by decide +kernel
theorem k33 : str (txtS (1250) 2) = ByteArray.mk #[49, 50, 46, 53, 48] := by first | decide | kernel_rfl
theorem k34 : txtE 2 = 0 := by decide +kernel
theorem k35 : str (txtS (7) 0) = ByteArray.mk #[55] := by first | decide | kernel_rfl
theorem k36 : txtE 0 = 0 := by decide +kernel
theorem k37 : str (txtS (-9223372036854775808) 9) = ByteArray.mk #[45, 57, 50, 50, 51, 51, 55, 50, 48, 51, 54, 46, 56, 53, 52, 55, 55, 53, 56, 48, 56] := by first | decide | kernel_rfl
theorem k38 : txtE 9 = 0 := by decide +kernel
theorem k39 : str (txtS (0) 2) = ByteArray.mk #[48, 46, 48, 48] := by first | decide | kernel_rfl
theorem k40 : txtE 2 = 0 := by decide +kernel
theorem k41 : decN (ByteArray.mk #[49]).data.toList 10 = 0 := by decide +kernel
theorem k42 : decE (ByteArray.mk #[49]).data.toList 10 = 1 := by decide +kernel
theorem k43 : str (txtS 1 (-1)) = ByteArray.mk #[] := by first | decide | kernel_rfl
theorem k44 : txtE (-1) = 1 := by decide +kernel
theorem k45 : keysF [2, 97] = none := by rfl
theorem k46 : keysF [3] = none := by rfl
theorem k47 : keysF [1, 128] = none := by rfl
theorem k48 : keysF [2, 97, 0] = none := by rfl
theorem k49 : keysF [2, 97, 0, 2] = none := by rfl
theorem k50 : rowB [⟨0, 0, ByteArray.mk #[]⟩] = [0] := by decide +kernel
theorem k51 : rightF ⟨0, 0, ByteArray.mk #[]⟩ = true := by decide +kernel
theorem k52 : rowB [⟨1, 1, ByteArray.mk #[]⟩] = [1, 128, 0, 0, 0, 0, 0, 0, 1] := by decide +kernel
theorem k53 : rightF ⟨1, 1, ByteArray.mk #[]⟩ = true := by decide +kernel
theorem k54 : rowB [⟨1, -1, ByteArray.mk #[]⟩] = [1, 127, 255, 255, 255, 255, 255, 255, 255] := by decide +kernel
theorem k55 : rightF ⟨1, -1, ByteArray.mk #[]⟩ = true := by decide +kernel
theorem keys00 : keysF [0, 0] = some [⟨0, 0, ⟨#[]⟩⟩, ⟨0, 0, ⟨#[]⟩⟩] := rfl

set_option maxRecDepth 100000 in
set_option maxHeartbeats 4000000 in
theorem walk (w : World) (hT : OTabs w) : Calls Tryd.prog 6 #[] w (BoolB true w) := by
  have T := Lib.hid hT; clear hT
  have BB := Lib.hid (Below.refl w.heap.size w)
  go_enter Tryd.func6, Tryd.ntmps6
  go_wp2_with fail
  refine (awake_any _ T.out).mono ?_
  rintro _ w1 ⟨rfl, b⟩
  replace T := Lib.hid (T.out.next b); replace BB := Lib.hid (BB.out.trans (b.mono BB.out.size)); clear b
  go_wp2_with fail
  refine (decimal_true (ByteArray.mk #[45, 48, 46, 48, 55]) 2 (-7) _ (by decide) T.out k1 k2).mono ?_
  rintro _ w2 ⟨rfl, b⟩
  replace T := Lib.hid (T.out.next b); replace BB := Lib.hid (BB.out.trans (b.mono BB.out.size)); clear b
  go_wp2_with fail
  refine (decimal_true (ByteArray.mk #[55]) 0 (7) _ (by decide) T.out k3 k4).mono ?_
  rintro _ w3 ⟨rfl, b⟩
  replace T := Lib.hid (T.out.next b); replace BB := Lib.hid (BB.out.trans (b.mono BB.out.size)); clear b
  go_wp2_with fail
  refine (decimal_true (ByteArray.mk #[45, 48]) 3 (0) _ (by decide) T.out k5 k6).mono ?_
  rintro _ w4 ⟨rfl, b⟩
  replace T := Lib.hid (T.out.next b); replace BB := Lib.hid (BB.out.trans (b.mono BB.out.size)); clear b
  go_wp2_with fail
  refine (decimal_true (ByteArray.mk #[57, 50, 50, 51, 51, 55, 50, 48, 51, 54, 56, 53, 52, 55, 55, 53, 56, 48, 55]) 0 (9223372036854775807) _ (by decide) T.out k7 k8).mono ?_
  rintro _ w5 ⟨rfl, b⟩
  replace T := Lib.hid (T.out.next b); replace BB := Lib.hid (BB.out.trans (b.mono BB.out.size)); clear b
  go_wp2_with fail
  refine (decimal_true (ByteArray.mk #[45, 57, 50, 50, 51, 51, 55, 50, 48, 51, 54, 56, 53, 52, 55, 55, 53, 56, 48, 56]) 0 (-9223372036854775808) _ (by decide) T.out k9 k10).mono ?_
  rintro _ w6 ⟨rfl, b⟩
  replace T := Lib.hid (T.out.next b); replace BB := Lib.hid (BB.out.trans (b.mono BB.out.size)); clear b
  go_wp2_with fail
  refine (none_true (ByteArray.mk #[49, 46, 50, 51, 52]) 2 _ (by decide) T.out k11 k12).mono ?_
  rintro _ w7 ⟨rfl, b⟩
  replace T := Lib.hid (T.out.next b); replace BB := Lib.hid (BB.out.trans (b.mono BB.out.size)); clear b
  go_wp2_with fail
  refine (none_true (ByteArray.mk #[46, 53]) 2 _ (by decide) T.out k13 k14).mono ?_
  rintro _ w8 ⟨rfl, b⟩
  replace T := Lib.hid (T.out.next b); replace BB := Lib.hid (BB.out.trans (b.mono BB.out.size)); clear b
  go_wp2_with fail
  refine (none_true (ByteArray.mk #[53, 46]) 2 _ (by decide) T.out k15 k16).mono ?_
  rintro _ w9 ⟨rfl, b⟩
  replace T := Lib.hid (T.out.next b); replace BB := Lib.hid (BB.out.trans (b.mono BB.out.size)); clear b
  go_wp2_with fail
  refine (none_true (ByteArray.mk #[55, 46, 48]) 0 _ (by decide) T.out k17 k18).mono ?_
  rintro _ w10 ⟨rfl, b⟩
  replace T := Lib.hid (T.out.next b); replace BB := Lib.hid (BB.out.trans (b.mono BB.out.size)); clear b
  go_wp2_with fail
  refine (none_true (ByteArray.mk #[]) 2 _ (by decide) T.out k19 k20).mono ?_
  rintro _ w11 ⟨rfl, b⟩
  replace T := Lib.hid (T.out.next b); replace BB := Lib.hid (BB.out.trans (b.mono BB.out.size)); clear b
  go_wp2_with fail
  refine (none_true (ByteArray.mk #[57, 50, 50, 51, 51, 55, 50, 48, 51, 54, 56, 53, 52, 55, 55, 53, 56, 48, 56]) 0 _ (by decide) T.out k21 k22).mono ?_
  rintro _ w12 ⟨rfl, b⟩
  replace T := Lib.hid (T.out.next b); replace BB := Lib.hid (BB.out.trans (b.mono BB.out.size)); clear b
  go_wp2_with fail
  refine (none_true (ByteArray.mk #[57, 50, 50, 51, 51, 55, 50, 48, 51, 54, 56, 53, 52, 55, 55, 53, 56, 46, 48, 56]) 2 _ (by decide) T.out k23 k24).mono ?_
  rintro _ w13 ⟨rfl, b⟩
  replace T := Lib.hid (T.out.next b); replace BB := Lib.hid (BB.out.trans (b.mono BB.out.size)); clear b
  go_wp2_with fail
  refine (none_true (ByteArray.mk #[45]) 0 _ (by decide) T.out k25 k26).mono ?_
  rintro _ w14 ⟨rfl, b⟩
  replace T := Lib.hid (T.out.next b); replace BB := Lib.hid (BB.out.trans (b.mono BB.out.size)); clear b
  go_wp2_with fail
  refine (none_true (ByteArray.mk #[49, 32]) 0 _ (by decide) T.out k27 k28).mono ?_
  rintro _ w15 ⟨rfl, b⟩
  replace T := Lib.hid (T.out.next b); replace BB := Lib.hid (BB.out.trans (b.mono BB.out.size)); clear b
  go_wp2_with fail
  refine (none_true (ByteArray.mk #[48, 48, 48, 48, 48, 48, 48, 48, 48, 48, 48, 48, 48, 48, 48, 48, 48, 48, 48, 48]) 0 _ (by decide) T.out k29 k30).mono ?_
  rintro _ w16 ⟨rfl, b⟩
  replace T := Lib.hid (T.out.next b); replace BB := Lib.hid (BB.out.trans (b.mono BB.out.size)); clear b
  go_wp2_with fail
  refine (none_true (ByteArray.mk #[43, 49]) 0 _ (by decide) T.out k31 k32).mono ?_
  rintro _ w17 ⟨rfl, b⟩
  replace T := Lib.hid (T.out.next b); replace BB := Lib.hid (BB.out.trans (b.mono BB.out.size)); clear b
  go_wp2_with fail
  refine (text_true (1250) 2 (ByteArray.mk #[49, 50, 46, 53, 48]) _ (by decide) (by decide) T.out k33 k34).mono ?_
  rintro _ w18 ⟨rfl, b⟩
  replace T := Lib.hid (T.out.next b); replace BB := Lib.hid (BB.out.trans (b.mono BB.out.size)); clear b
  go_wp2_with fail
  refine (text_true (7) 0 (ByteArray.mk #[55]) _ (by decide) (by decide) T.out k35 k36).mono ?_
  rintro _ w19 ⟨rfl, b⟩
  replace T := Lib.hid (T.out.next b); replace BB := Lib.hid (BB.out.trans (b.mono BB.out.size)); clear b
  go_wp2_with fail
  refine (text_true (-9223372036854775808) 9 (ByteArray.mk #[45, 57, 50, 50, 51, 51, 55, 50, 48, 51, 54, 46, 56, 53, 52, 55, 55, 53, 56, 48, 56]) _ (by decide) (by decide) T.out k37 k38).mono ?_
  rintro _ w20 ⟨rfl, b⟩
  replace T := Lib.hid (T.out.next b); replace BB := Lib.hid (BB.out.trans (b.mono BB.out.size)); clear b
  go_wp2_with fail
  refine (text_true (0) 2 (ByteArray.mk #[48, 46, 48, 48]) _ (by decide) (by decide) T.out k39 k40).mono ?_
  rintro _ w21 ⟨rfl, b⟩
  replace T := Lib.hid (T.out.next b); replace BB := Lib.hid (BB.out.trans (b.mono BB.out.size)); clear b
  go_wp2_with fail
  refine ((by have h := dec_any (ByteArray.mk #[49]) 10 _ (by decide) T.out; unfold DecRet at h; rw [k41, k42] at h; exact h : Calls Tryd.prog 9 #[.string ⟨#[49]⟩, .int .i64 10] w21 (fun e w2 => e = .returned (.tuple #[.int .i64 0, .int .i64 1]) ∧ Below (World.heap w21).size w21 w2))).mono ?_
  rintro _ w22 ⟨rfl, b⟩
  replace T := Lib.hid (T.out.next b); replace BB := Lib.hid (BB.out.trans (b.mono BB.out.size)); clear b
  go_wp2_with fail
  refine ((by have h := text_any 1 (-1) _ (by decide) (by decide) T.out; unfold TextRet at h; rw [k43, k44] at h; exact h : Calls Tryd.prog 11 #[.int .i64 1, .int .i64 (-1)] w22 (fun e w2 => e = .returned (.tuple #[.string ⟨#[]⟩, .int .i64 1]) ∧ Below (World.heap w22).size w22 w2))).mono ?_
  rintro _ w23 ⟨rfl, b⟩
  replace T := Lib.hid (T.out.next b); replace BB := Lib.hid (BB.out.trans (b.mono BB.out.size)); clear b
  go_wp2_with fail
  refine (bytes_wrong ⟨3, 0, ⟨#[]⟩⟩ w23 (by decide) (by decide)).mono ?_
  rintro _ w24 ⟨rfl, b⟩
  replace T := Lib.hid (T.out.next b); replace BB := Lib.hid (BB.out.trans (b.mono BB.out.size)); clear b
  go_wp2_with fail
  refine (bytes_wrong ⟨1, 0, ⟨#[97]⟩⟩ w24 (by decide) (by decide)).mono ?_
  rintro _ w25 ⟨rfl, b⟩
  replace T := Lib.hid (T.out.next b); replace BB := Lib.hid (BB.out.trans (b.mono BB.out.size)); clear b
  go_wp2_with fail
  refine (keys_some [0, 0] [⟨0, 0, ⟨#[]⟩⟩, ⟨0, 0, ⟨#[]⟩⟩] w25 (by simp) keys00 (by simp)).mono ?_
  rintro _ w26 ⟨⟨g, rfl⟩, b⟩
  replace T := Lib.hid (T.out.next b); replace BB := Lib.hid (BB.out.trans (b.mono BB.out.size)); clear b
  go_wp2_with fail
  refine (keys_none w26).mono ?_
  rintro _ w27 ⟨⟨ao, rfl⟩, b⟩
  replace T := Lib.hid (T.out.next b); replace BB := Lib.hid (BB.out.trans (b.mono BB.out.size)); clear b
  go_wp2_with fail
  refine (bad_true [2, 97] w27 (by simp) k45).mono ?_
  rintro _ w28 ⟨rfl, b⟩
  replace T := Lib.hid (T.out.next b); replace BB := Lib.hid (BB.out.trans (b.mono BB.out.size)); clear b
  go_wp2_with fail
  refine (bad_true [3] w28 (by simp) k46).mono ?_
  rintro _ w29 ⟨rfl, b⟩
  replace T := Lib.hid (T.out.next b); replace BB := Lib.hid (BB.out.trans (b.mono BB.out.size)); clear b
  go_wp2_with fail
  refine (bad_true [1, 128] w29 (by simp) k47).mono ?_
  rintro _ w30 ⟨rfl, b⟩
  replace T := Lib.hid (T.out.next b); replace BB := Lib.hid (BB.out.trans (b.mono BB.out.size)); clear b
  go_wp2_with fail
  refine (bad_true [2, 97, 0] w30 (by simp) k48).mono ?_
  rintro _ w31 ⟨rfl, b⟩
  replace T := Lib.hid (T.out.next b); replace BB := Lib.hid (BB.out.trans (b.mono BB.out.size)); clear b
  go_wp2_with fail
  refine (bad_true [2, 97, 0, 2] w31 (by simp) k49).mono ?_
  rintro _ w32 ⟨rfl, b⟩
  replace T := Lib.hid (T.out.next b); replace BB := Lib.hid (BB.out.trans (b.mono BB.out.size)); clear b
  go_wp2_with fail
  refine (bytes_true 0 (0) (ByteArray.mk #[]) _ 1 1 [0] _ rfl (by simp) (fun j hj => by
    rw [World.cell?_alloc_new]
    have : j = 0 := by simp at hj; omega
    rcases this with rfl <;> rfl) (by decide) k51 k50).mono ?_
  rintro _ w33 ⟨rfl, b⟩
  have b2 := ((Below.refl _ w32).alloc (Nat.le_refl _) _).trans (b.mono (by simp))
  clear b
  replace T := Lib.hid (T.out.next b2); replace BB := Lib.hid (BB.out.trans (b2.mono BB.out.size)); clear b2
  go_wp2_with fail
  refine (bytes_true 1 (1) (ByteArray.mk #[]) _ 9 9 [1, 128, 0, 0, 0, 0, 0, 0, 1] _ rfl (by simp) (fun j hj => by
    rw [World.cell?_alloc_new]
    have : j = 0 ∨ j = 1 ∨ j = 2 ∨ j = 3 ∨ j = 4 ∨ j = 5 ∨ j = 6 ∨ j = 7 ∨ j = 8 := by simp at hj; omega
    rcases this with rfl | rfl | rfl | rfl | rfl | rfl | rfl | rfl | rfl <;> rfl) (by decide) k53 k52).mono ?_
  rintro _ w34 ⟨rfl, b⟩
  have b2 := ((Below.refl _ w33).alloc (Nat.le_refl _) _).trans (b.mono (by simp))
  clear b
  replace T := Lib.hid (T.out.next b2); replace BB := Lib.hid (BB.out.trans (b2.mono BB.out.size)); clear b2
  go_wp2_with fail
  refine (bytes_true 1 (-1) (ByteArray.mk #[]) _ 9 9 [1, 127, 255, 255, 255, 255, 255, 255, 255] _ rfl (by simp) (fun j hj => by
    rw [World.cell?_alloc_new]
    have : j = 0 ∨ j = 1 ∨ j = 2 ∨ j = 3 ∨ j = 4 ∨ j = 5 ∨ j = 6 ∨ j = 7 ∨ j = 8 := by simp at hj; omega
    rcases this with rfl | rfl | rfl | rfl | rfl | rfl | rfl | rfl | rfl <;> rfl) (by decide) k55 k54).mono ?_
  rintro _ w35 ⟨rfl, b⟩
  have b2 := ((Below.refl _ w34).alloc (Nat.le_refl _) _).trans (b.mono (by simp))
  clear b
  replace T := Lib.hid (T.out.next b2); replace BB := Lib.hid (BB.out.trans (b2.mono BB.out.size)); clear b2
  go_wp2_with fail
  refine (right_val ⟨2, 1, ⟨#[]⟩⟩ false w35 (by decide)).mono ?_
  rintro _ w36 ⟨rfl, b⟩
  replace T := Lib.hid (T.out.next b); replace BB := Lib.hid (BB.out.trans (b.mono BB.out.size)); clear b
  go_wp2_with fail
  refine (right_val ⟨2, 0, ⟨#[]⟩⟩ true w36 (by decide)).mono ?_
  rintro _ w37 ⟨rfl, b⟩
  replace T := Lib.hid (T.out.next b); replace BB := Lib.hid (BB.out.trans (b.mono BB.out.size)); clear b
  go_wp2_with fail
  go_ret
  exact ⟨ret_bool (by simp), BB.out⟩
end Go.Proofs.YtebagmiclfhelaaDoor.OrderKnownWalk
