/- The walk of the law FoldLower. -/
import Derived.Test.YtdgmgedecnbmdaaDoorFoldKnown
import Derived.Test.YtdgmgedecnbmdaaDoorFoldBackP
set_option linter.unusedVariables false
namespace Go.Proofs.YtdgmgedecnbmdaaDoor.FoldLaws
open Go.RowKit Go.Lib FoldP FoldInts Kit FoldForms FoldNext FoldIter FoldValid FoldRefFold FoldFold FoldPut

theorem str_size (l : List UInt8) : (str l).size = l.length := by simp [str, ByteArray.size]
theorem str_list (l : List UInt8) : (str l).data.toList = l := rfl
theorem str_of (s : ByteArray) : str s.data.toList = s := rfl
theorem str_app (a b : List UInt8) : str (a ++ b) = str a ++ str b := by
  apply ByteArray.ext; apply Array.ext'; simp [str, ByteArray.data_append]

theorem get0 (t : ByteArray) (h : 0 < t.size) : t.data.toList.getD 0 0 = t[0] := by
  have h' : 0 < t.data.toList.length := by simpa using h
  rw [List.getD_eq_getElem?_getD, List.getElem?_eq_getElem h', Option.getD_some]; rfl
theorem part_low {v : Bool} {t : ByteArray} (h : 0 < t.size) (hc : t[0].toNat < 128 ∨ 192 ≤ t[0].toNat) : v = true ∨ t.data.toList = [] ∨ ¬ contB (t.data.toList.getD 0 0) := by
  right; right; rw [get0 t h]; unfold contB; omega

/-- 'Fold' of two texts, behind a name each. -/
structure Folds (s t f g : ByteArray) (v : Bool) : Prop where
  gs : ∀ w, Tabs w → Calls Tryd.prog 15 #[.string s] w (fun e w' => e = .returned (.string f) ∧ Below w.heap.size w w')
  gf : ∀ w, Tabs w → Calls Tryd.prog 15 #[.string f] w (fun e w' => e = .returned (.string f) ∧ Below w.heap.size w w')
  gt : ∀ w, Tabs w → Calls Tryd.prog 15 #[.string t] w (fun e w' => e = .returned (.string g) ∧ Below w.heap.size w w')
  gst : (v = true ∨ t.data.toList = [] ∨ ¬ contB (t.data.toList.getD 0 0)) → ∀ w, Tabs w → Calls Tryd.prog 15 #[.string (s ++ t)] w (fun e w' => e = .returned (.string (f ++ g)) ∧ Below w.heap.size w w')
  gvs : ∀ w, Tabs w → Calls Tryd.prog 11 #[.string s] w (BoolBelow v w)
  gvf : ∀ w, Tabs w → Calls Tryd.prog 11 #[.string f] w (BoolBelow v w)
theorem folds (s t : ByteArray) (hs : s.size + t.size ≤ 1048576) : ∃ f g v, Folds s t f g v ∧ f.size = s.size ∧ g.size = t.size := by
  have hf : (str (foldL s.data.toList)).size = s.size := by rw [str_size, fold_length]; simp
  refine ⟨str (foldL s.data.toList), str (foldL t.data.toList), validD s.data.toList, ⟨fun w hT => fold_any s w (by omega) hT, fun w hT => ?_, fun w hT => fold_any t w (by omega) hT, fun h w hT => ?_, fun w hT => valid_any s w (by omega) hT, fun w hT => ?_⟩, hf, by rw [str_size, fold_length]; simp⟩
  · refine (fold_any (str (foldL s.data.toList)) w (by omega) hT).mono fun e w' h => ?_
    have h' : StrBelow (foldL (foldL s.data.toList)) w e w' := h
    rw [fold_fold] at h'; exact h'
  · refine (fold_any (s ++ t) w (by rw [ByteArray.size_append]; omega) hT).mono fun e w' h' => ?_
    have e1 : (s ++ t).data.toList = s.data.toList ++ t.data.toList := by simp [ByteArray.data_append]
    rw [e1, fold_app _ _ h] at h'
    rw [← str_app]; exact h'
  · refine (valid_any (str (foldL s.data.toList)) w (by omega) hT).mono fun e w' h => ?_
    have h' : BoolBelow (validD (foldL s.data.toList)) w e w' := h
    rw [fold_valid] at h'; exact h'

/-- 'Lower' and the classes, behind a name each. -/
structure Lowers (r l : Int) (c d m : Bool) : Prop where
  gr : ∀ w, Calls Tryd.prog 19 #[.int .i32 r] w (fun e w' => e = .returned (.int .i32 l) ∧ w = w')
  gl : ∀ w, Calls Tryd.prog 19 #[.int .i32 l] w (fun e w' => e = .returned (.int .i32 l) ∧ w = w')
  gcl : ∀ w, Calls Tryd.prog 20 #[.int .i32 l] w (fun e w' => e = .returned (.bool c) ∧ w = w')
  gcr : ∀ w, Calls Tryd.prog 20 #[.int .i32 r] w (fun e w' => e = .returned (.bool c) ∧ w = w')
  gdl : ∀ w, Calls Tryd.prog 21 #[.int .i32 l] w (fun e w' => e = .returned (.bool d) ∧ w = w')
  gdr : ∀ w, Calls Tryd.prog 21 #[.int .i32 r] w (fun e w' => e = .returned (.bool d) ∧ w = w')
  gml : ∀ w, Calls Tryd.prog 22 #[.int .i32 l] w (fun e w' => e = .returned (.bool m) ∧ w = w')
  gmr : ∀ w, Calls Tryd.prog 22 #[.int .i32 r] w (fun e w' => e = .returned (.bool m) ∧ w = w')
theorem lowers (r : Int) : ∃ l c d m, Lowers r l c d m ∧ (l ≠ r → c = true) := by
  refine ⟨lowerF r, letterF r, digitF r, markF r, ⟨fun w => lower_any r w, fun w => ?_, fun w => ?_, fun w => letter_any r w, fun w => ?_, fun w => digit_any r w, fun w => ?_, fun w => mark_any r w⟩, (lower_letter r).2⟩
  · have := lower_any (lowerF r) w; unfold LowRet at this; rw [lower_lower] at this; exact this
  · have := letter_any (lowerF r) w; rw [(lower_letter r).1] at this; exact this
  · have := digit_any (lowerF r) w; rw [lower_digit] at this; exact this
  · have := mark_any (lowerF r) w; rw [lower_mark] at this; exact this

set_option maxRecDepth 100000 in
set_option maxHeartbeats 2000000 in
theorem foldLower_walk (s t : ByteArray) (r : Int) (_h : (Lit.int .i32 r).wf = true) (w : World) (hst : s.size + t.size ≤ 1048576) (hT : Tabs w) :
    Calls Tryd.prog 7 #[.string s, .string t, .int .i32 r] w (TrueBelow w) := by
  have HT := Lib.hid hT; clear hT
  obtain ⟨f, g, v, hF, hf, hg⟩ := folds s t hst
  obtain ⟨l, c, d, m, hL, hlr⟩ := lowers r
  have HF := Lib.hid hF
  have HL := Lib.hid hL
  clear hF hL _h
  go_enter Tryd.func7, Tryd.ntmps7
  go_wp2_with fail
  refine (known_any w HT.out).mono ?_
  rintro e w1 ⟨rfl, hb⟩
  have T1 := Lib.hid (HT.out.next hb)
  have B1 := Lib.hid hb; clear hb
  go_wp2_with fail
  refine (HL.out.gr _).mono ?_
  rintro e w' ⟨rfl, rfl⟩
  go_wp2_with fail
  refine (HL.out.gl _).mono ?_
  rintro e w' ⟨rfl, rfl⟩
  have c0 : ((l : Int) != l) = false := by simp
  go_wp2_with fail
  refine (HL.out.gcl _).mono ?_
  rintro e w' ⟨rfl, rfl⟩
  go_wp2_with fail
  refine (HL.out.gcr _).mono ?_
  rintro e w' ⟨rfl, rfl⟩
  have c1 : (c != c) = false := by simp
  go_wp2_with fail
  refine (HL.out.gdl _).mono ?_
  rintro e w' ⟨rfl, rfl⟩
  go_wp2_with fail
  refine (HL.out.gdr _).mono ?_
  rintro e w' ⟨rfl, rfl⟩
  have c2 : (d != d) = false := by simp
  go_wp2_with fail
  refine (HL.out.gml _).mono ?_
  rintro e w' ⟨rfl, rfl⟩
  go_wp2_with fail
  refine (HL.out.gmr _).mono ?_
  rintro e w' ⟨rfl, rfl⟩
  have c3 : (m != m) = false := by simp
  by_cases hr : l = r
  case' pos =>
    have c4 : ((l : Int) != r) = false := by rw [hr]; simp
    clear hlr hr
    go_wp2_with fail
  case' neg =>
    have c4 : ((l : Int) != r) = true := by rw [bne_iff_ne]; exact hr
    have hct : c = true := hlr hr
    subst hct
    clear hlr hr
    go_wp2_with fail
    refine (HL.out.gcr _).mono ?_
    rintro e w' ⟨rfl, rfl⟩
    go_wp2_with fail
  all_goals
    refine (HF.out.gs _ T1.out).mono ?_
    rintro e w2 ⟨rfl, hb⟩
    have T2 := Lib.hid (T1.out.next hb)
    have B2 := Lib.hid (B1.out.trans (hb.mono B1.out.size)); clear hb
    go_wp2_with fail
    refine (HF.out.gf _ T2.out).mono ?_
    rintro e w3 ⟨rfl, hb⟩
    have T3 := Lib.hid (T2.out.next hb)
    have B3 := Lib.hid (B2.out.trans (hb.mono B2.out.size)); clear hb
    have c5 : (f.toList == f.toList) = true := by simp
    go_wp2_with fail
    refine (HF.out.gvf _ T3.out).mono ?_
    rintro e w4 ⟨rfl, hb⟩
    have T4 := Lib.hid (T3.out.next hb)
    have B4 := Lib.hid (B3.out.trans (hb.mono B3.out.size)); clear hb
    go_wp2_with fail
    refine (HF.out.gvs _ T4.out).mono ?_
    rintro e w5 ⟨rfl, hb⟩
    have T5 := Lib.hid (T4.out.next hb)
    have B5 := Lib.hid (B4.out.trans (hb.mono B4.out.size)); clear hb
    have c6 : (v != v) = false := by simp
    go_wp2_with fail
    refine (HF.out.gvs _ T5.out).mono ?_
    rintro e w6 ⟨rfl, hb⟩
    have T6 := Lib.hid (T5.out.next hb)
    have B6 := Lib.hid (B5.out.trans (hb.mono B5.out.size)); clear hb
    clear c0 c1 c2 c3 c4 c5 c6
    cases v with
    | true =>
      go_wp2_with fail
      refine (HF.out.gst (.inl rfl) _ T6.out).mono ?_
      rintro e w7 ⟨rfl, hb⟩
      have T7 := Lib.hid (T6.out.next hb)
      have B7 := Lib.hid (B6.out.trans (hb.mono B6.out.size)); clear hb
      go_wp2_with fail
      refine (HF.out.gt _ T7.out).mono ?_
      rintro e w8 ⟨rfl, hb⟩
      have B8 := Lib.hid (B7.out.trans (hb.mono B7.out.size)); clear hb
      have c7 : ((f ++ g).toList == (f ++ g).toList) = true := by rw [beq_iff_eq]
      go_wp2_with fail
      go_ret
      exact ⟨rfl, B8.out⟩
    | false =>
      by_cases h0 : t.size = 0
      · have h0b : ((t.size : Int) == 0) = true := by rw [beq_iff_eq]; omega
        have H0 := Lib.hid h0; clear h0
        go_wp2_with fail
        refine (HF.out.gst (.inr (.inl (List.eq_nil_of_length_eq_zero (by simpa using H0.out)))) _ T6.out).mono ?_
        rintro e w7 ⟨rfl, hb⟩
        have T7 := Lib.hid (T6.out.next hb)
        have B7 := Lib.hid (B6.out.trans (hb.mono B6.out.size)); clear hb
        go_wp2_with fail
        refine (HF.out.gt _ T7.out).mono ?_
        rintro e w8 ⟨rfl, hb⟩
        have B8 := Lib.hid (B7.out.trans (hb.mono B7.out.size)); clear hb
        have c7 : ((f ++ g).toList == (f ++ g).toList) = true := by rw [beq_iff_eq]
        go_wp2_with fail
        go_ret
        exact ⟨rfl, B8.out⟩
      · have h0b : ((t.size : Int) == 0) = false := by rw [beq_eq_false_iff_ne]; omega
        have hlt : 0 < t.size := by omega
        clear h0
        by_cases h1 : t[0].toNat < 128
        · have h1b : decide ((t[0].toNat : Int) < 128) = true := by rw [decide_eq_true_eq]; omega
          have H1 := Lib.hid h1; clear h1
          go_wp2_with fail
          refine (HF.out.gst (part_low hlt (.inl H1.out)) _ T6.out).mono ?_
          rintro e w7 ⟨rfl, hb⟩
          have T7 := Lib.hid (T6.out.next hb)
          have B7 := Lib.hid (B6.out.trans (hb.mono B6.out.size)); clear hb
          go_wp2_with fail
          refine (HF.out.gt _ T7.out).mono ?_
          rintro e w8 ⟨rfl, hb⟩
          have B8 := Lib.hid (B7.out.trans (hb.mono B7.out.size)); clear hb
          have c7 : ((f ++ g).toList == (f ++ g).toList) = true := by rw [beq_iff_eq]
          go_wp2_with fail
          go_ret
          exact ⟨rfl, B8.out⟩
        · have h1b : decide ((t[0].toNat : Int) < 128) = false := by rw [decide_eq_false_iff_not]; omega
          clear h1
          by_cases h2 : 192 ≤ t[0].toNat
          · have h2b : decide ((192 : Int) ≤ (t[0].toNat : Int)) = true := by rw [decide_eq_true_eq]; omega
            have H2 := Lib.hid h2; clear h2
            go_wp2_with fail
            refine (HF.out.gst (part_low hlt (.inr H2.out)) _ T6.out).mono ?_
            rintro e w7 ⟨rfl, hb⟩
            have T7 := Lib.hid (T6.out.next hb)
            have B7 := Lib.hid (B6.out.trans (hb.mono B6.out.size)); clear hb
            go_wp2_with fail
            refine (HF.out.gt _ T7.out).mono ?_
            rintro e w8 ⟨rfl, hb⟩
            have B8 := Lib.hid (B7.out.trans (hb.mono B7.out.size)); clear hb
            have c7 : ((f ++ g).toList == (f ++ g).toList) = true := by rw [beq_iff_eq]
            go_wp2_with fail
            go_ret
            exact ⟨rfl, B8.out⟩
          · have h2b : decide ((192 : Int) ≤ (t[0].toNat : Int)) = false := by rw [decide_eq_false_iff_not]; omega
            clear h2
            go_wp2_with fail
            go_ret
            exact ⟨rfl, B6.out⟩
end Go.Proofs.YtdgmgedecnbmdaaDoor.FoldLaws
