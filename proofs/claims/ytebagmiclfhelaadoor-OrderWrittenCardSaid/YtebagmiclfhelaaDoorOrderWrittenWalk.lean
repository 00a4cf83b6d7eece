/- The walk of OrderWritten. -/
import Derived.Test.YtebagmiclfhelaaDoorOrdAwake2
set_option linter.unusedVariables false
namespace OrdP
open Go.Lib Go
theorem low_no46 (u k j : Nat) (c : UInt8) (h : (lowD u k)[j]? = some c) : c ≠ 46 := by
  intro e
  subst e
  have := List.all_eq_true.1 (lowD_digits k u) _ (List.mem_of_getElem? h)
  revert this; decide
theorem text_point (n : Int) (sc k : Nat) : (textF n sc)[k]? = some 46 ↔ (0 < sc ∧ k + sc + 1 = (textF n sc).length) := by
  have hw := wide_le n.natAbs sc
  have hA : ∀ (j : Nat) (c : UInt8), ((if n < 0 then ([45] : List UInt8) else []) ++ lowD (n.natAbs / 10 ^ sc) (wide n.natAbs sc - sc))[j]? = some c → c ≠ 46 := by
    intro j c h
    have hm := List.mem_of_getElem? h
    rw [List.mem_append] at hm
    rcases hm with hm | hm
    · by_cases hn : n < 0
      · rw [if_pos hn, List.mem_singleton] at hm; subst hm; decide
      · rw [if_neg hn] at hm; cases hm
    · obtain ⟨j, hj⟩ := List.getElem?_of_mem hm
      exact low_no46 _ _ _ _ hj
  have e : textF n sc = ((if n < 0 then ([45] : List UInt8) else []) ++ lowD (n.natAbs / 10 ^ sc) (wide n.natAbs sc - sc)) ++ (if sc = 0 then [] else 46 :: lowD n.natAbs sc) := by
    unfold textF textU; rw [List.append_assoc]
  rw [e]
  generalize ((if n < 0 then ([45] : List UInt8) else []) ++ lowD (n.natAbs / 10 ^ sc) (wide n.natAbs sc - sc)) = A at *
  by_cases hs : sc = 0
  · subst hs
    rw [if_pos rfl, List.append_nil]
    constructor
    · intro h; exact absurd rfl (hA _ _ h)
    · rintro ⟨h, _⟩; omega
  · rw [if_neg hs, List.length_append, List.length_cons, lowD_length]
    constructor
    · intro h
      refine ⟨by omega, ?_⟩
      rcases Nat.lt_or_ge k A.length with h1 | h1
      · rw [List.getElem?_append_left h1] at h; exact absurd rfl (hA _ _ h)
      · rw [List.getElem?_append_right h1] at h
        rcases Nat.eq_zero_or_pos (k - A.length) with h2 | h2
        · omega
        · obtain ⟨j, hj⟩ : ∃ j, k - A.length = j + 1 := ⟨k - A.length - 1, by omega⟩
          rw [hj, List.getElem?_cons_succ] at h
          exact absurd rfl (low_no46 _ _ _ _ h)
    · rintro ⟨_, h⟩
      rw [List.getElem?_append_right (by omega), show k - A.length = 0 by omega]; rfl
theorem text_head (n : Int) (sc : Nat) : ∃ c t, textF n sc = c :: t ∧ (c = 45 ↔ n < 0) := by
  have hw := wide_le n.natAbs sc
  unfold textF
  by_cases h : n < 0
  · rw [if_pos h]; exact ⟨45, _, rfl, by simp [h]⟩
  · obtain ⟨c, t, e, hc⟩ := head_low (n.natAbs / 10 ^ sc) (wide n.natAbs sc - sc) (by omega) (if sc = 0 then [] else 46 :: lowD n.natAbs sc)
    rw [if_neg h, List.nil_append]
    refine ⟨c, t, e, ⟨fun h2 => ?_, fun h2 => absurd h2 h⟩⟩
    subst h2; exact absurd hc (by decide)
theorem text_inj (a b : Int) (sc : Nat) (ha0 : -9223372036854775808 ≤ a) (ha : a ≤ 9223372036854775807) (hb0 : -9223372036854775808 ≤ b) (hb : b ≤ 9223372036854775807) (h : textF a sc = textF b sc) : a = b := by
  have h1 := dec_text a sc ha0 ha
  rw [h, dec_text b sc hb0 hb] at h1
  exact (Option.some.inj h1).symm
end OrdP
namespace Go.Proofs.YtebagmiclfhelaaDoor.OrderWrittenWalk
open Go.RowKit Go.Lib OrdP Kit OrdRef OrdLib Words Owned

def PV (sz sc k : Nat) : Int := if 0 < sc ∧ sz ≤ k + sc then sc else 0

set_option maxRecDepth 100000 in
theorem out (a b scale : Int) (w : World) (a0 : -9223372036854775808 ≤ a) (a9 : a ≤ 9223372036854775807) (b0 : -9223372036854775808 ≤ b) (b9 : b ≤ 9223372036854775807) (hT : OTabs w) (h : scale < 0 ∨ 9 < scale) :
    Calls Tryd.prog 4 #[.int .i64 a, .int .i64 b, .int .i64 scale] w (BoolB true w) := by
  have HO := Lib.hid h
  have e1 : ∀ n, str (txtS n scale) = ByteArray.mk #[] := by intro n; unfold txtS; rw [if_pos h]; rfl
  have e2 : txtE scale = 1 := by unfold txtE; rw [if_pos h]
  have C : ∀ n w, OTabs w → -9223372036854775808 ≤ n → n ≤ 9223372036854775807 → Calls Tryd.prog 11 #[.int .i64 n, .int .i64 scale] w (fun e w' => e = .returned (.tuple #[.string ⟨#[]⟩, .int .i64 1]) ∧ Below w.heap.size w w') := by
    intro n w h0 h1 h2; rw [← e1 n, ← e2]; exact text_any n scale w h1 h2 h0
  have CA : ∀ w, OTabs w → Calls Tryd.prog 11 #[.int .i64 a, .int .i64 scale] w (fun e w' => e = .returned (.tuple #[.string ⟨#[]⟩, .int .i64 1]) ∧ Below w.heap.size w w') := fun w h => C a w h a0 a9
  have CB : ∀ w, OTabs w → Calls Tryd.prog 11 #[.int .i64 b, .int .i64 scale] w (fun e w' => e = .returned (.tuple #[.string ⟨#[]⟩, .int .i64 1]) ∧ Below w.heap.size w w') := fun w h => C b w h b0 b9
  have HA := Lib.hid CA; have HB := Lib.hid CB
  clear C e1 e2 a0 a9 b0 b9 h CA CB
  have HT := Lib.hid hT; clear hT
  rcases HO.out with h | h
  · have s1 : decide (scale < 0) = true := by rw [decide_eq_true_eq]; exact h
    clear h
    go_enter Tryd.func4, Tryd.ntmps4
    go_wp2_with fail
    refine (HA.out w HT.out).mono ?_
    rintro e w1 ⟨rfl, b1⟩
    have T1 := Lib.hid (HT.out.next b1); have B1 := Lib.hid b1; clear b1
    go_wp2_with fail
    refine (HB.out w1 T1.out).mono ?_
    rintro e w2 ⟨rfl, b2⟩
    have T2 := Lib.hid (T1.out.next b2); have B2 := Lib.hid (B1.out.trans (b2.mono B1.out.size)); clear b2
    go_wp2_with fail
    refine (awake_any w2 T2.out).mono ?_
    rintro e w5 ⟨rfl, b5⟩
    have B5 := Lib.hid (B2.out.trans (b5.mono B2.out.size)); clear b5
    go_wp2_with fail
    go_ret
    exact ⟨ret_bool (by simp), B5.out⟩
  · have s1 : decide (scale < 0) = false := by rw [decide_eq_false_iff_not]; omega
    have s2 : decide (9 < scale) = true := by rw [decide_eq_true_eq]; exact h
    clear h
    go_enter Tryd.func4, Tryd.ntmps4
    go_wp2_with fail
    refine (HA.out w HT.out).mono ?_
    rintro e w1 ⟨rfl, b1⟩
    have T1 := Lib.hid (HT.out.next b1); have B1 := Lib.hid b1; clear b1
    go_wp2_with fail
    refine (HB.out w1 T1.out).mono ?_
    rintro e w2 ⟨rfl, b2⟩
    have T2 := Lib.hid (T1.out.next b2); have B2 := Lib.hid (B1.out.trans (b2.mono B1.out.size)); clear b2
    go_wp2_with fail
    refine (awake_any w2 T2.out).mono ?_
    rintro e w5 ⟨rfl, b5⟩
    have B5 := Lib.hid (B2.out.trans (b5.mono B2.out.size)); clear b5
    go_wp2_with fail
    go_ret
    exact ⟨ret_bool (by simp), B5.out⟩

/-- What is to be known of the two texts. -/
structure Texts (a b : Int) (sc : Nat) (s t : ByteArray) : Prop where
  ts : s = str (textF a sc)
  tt : t = str (textF b sc)
  point : ∀ k (h : k < s.size), s[k] = 46 ↔ (0 < sc ∧ k + sc + 1 = s.size)
  pos : 0 < s.size
  long : sc ≤ s.size
  head : (h : 0 < s.size) → (s[0] = 45 ↔ a < 0)
  small : s.size ≤ 1000 ∧ t.size ≤ 1000
  da : decN s.data.toList sc = a ∧ decE s.data.toList sc = 0
  db : decN t.data.toList sc = b ∧ decE t.data.toList sc = 0
  same : a = b ∨ (¬ a = b ∧ ¬ s.toList = t.toList)

theorem texts (a b : Int) (sc : Nat) (a0 : -9223372036854775808 ≤ a) (a9 : a ≤ 9223372036854775807) (b0 : -9223372036854775808 ≤ b) (b9 : b ≤ 9223372036854775807) (h : sc ≤ 9) : Texts a b sc (str (textF a sc)) (str (textF b sc)) := by
  have hl : ∀ n : Int, (str (textF n sc)).size = (textF n sc).length := fun n => by unfold str; show (textF n sc).toArray.size = _; simp
  have hd : ∀ n : Int, (str (textF n sc)).data.toList = textF n sc := fun n => rfl
  have hg : ∀ (n : Int) k (h : k < (str (textF n sc)).size), (textF n sc)[k]? = some (str (textF n sc))[k] := fun n k h => by
    rw [List.getElem?_eq_getElem (by rw [← hl]; exact h)]; rfl
  have hn : ∀ n : Int, -9223372036854775808 ≤ n → n ≤ 9223372036854775807 → (textF n sc).length ≤ 1000 := fun n h0 h1 => by
    rw [text_length]
    have := wide_small n.natAbs sc (by omega) h
    split <;> split <;> omega
  have hdec : ∀ n : Int, -9223372036854775808 ≤ n → n ≤ 9223372036854775807 → decN (str (textF n sc)).data.toList sc = n ∧ decE (str (textF n sc)).data.toList sc = 0 := fun n h0 h1 => by
    rw [hd]
    unfold decN decE
    rw [if_neg (by omega), if_neg (by omega), Int.toNat_natCast, dec_text n sc h0 h1]
    exact ⟨rfl, rfl⟩
  have hlong : sc ≤ (textF a sc).length := by
    rw [text_length]
    by_cases hz : sc = 0
    · omega
    · rw [if_neg hz]; omega
  obtain ⟨c, t, e, hc⟩ := text_head a sc
  refine ⟨rfl, rfl, ?_, ?_, by rw [hl]; exact hlong, ?_, ⟨by rw [hl]; exact hn a a0 a9, by rw [hl]; exact hn b b0 b9⟩, hdec a a0 a9, hdec b b0 b9, ?_⟩
  · intro k hk
    have := text_point a sc k
    rw [hg a k hk, Option.some.injEq, ← hl] at this
    exact this
  · rw [hl, e]; simp
  · intro h0
    have h1 : (textF a sc)[0]? = some c := by rw [e]; rfl
    have h2 := (hg a 0 h0).symm.trans h1
    rw [Option.some.inj h2]; exact hc
  · by_cases hab : a = b
    · exact .inl hab
    · refine .inr ⟨hab, fun h => hab (text_inj a b sc a0 a9 b0 b9 ?_)⟩
      rw [ByteArray.toList_eq, ByteArray.toList_eq, hd, hd] at h
      exact h

set_option maxRecDepth 100000 in
set_option maxHeartbeats 1600000 in
theorem inn (a b : Int) (sc : Nat) (w : World) (a0 : -9223372036854775808 ≤ a) (a9 : a ≤ 9223372036854775807) (b0 : -9223372036854775808 ≤ b) (b9 : b ≤ 9223372036854775807) (hT : OTabs w) (h : sc ≤ 9) :
    Calls Tryd.prog 4 #[.int .i64 a, .int .i64 b, .int .i64 sc] w (BoolB true w) := by
  have HX := texts a b sc a0 a9 b0 b9 h
  obtain ⟨s, hs⟩ : ∃ s, str (textF a sc) = s := ⟨_, rfl⟩
  obtain ⟨t, ht⟩ : ∃ t, str (textF b sc) = t := ⟨_, rfl⟩
  rw [hs, ht] at HX
  have e1 : ∀ n, txtS n sc = textF n sc := by intro n; unfold txtS; rw [if_neg (by omega), Int.toNat_natCast]
  have e2 : txtE sc = 0 := by unfold txtE; rw [if_neg (by omega)]
  have CA : ∀ w, OTabs w → Calls Tryd.prog 11 #[.int .i64 a, .int .i64 sc] w (fun e w' => e = .returned (.tuple #[.string s, .int .i64 0]) ∧ Below w.heap.size w w') := by
    intro w h; rw [← hs, ← e1, ← e2]; exact text_any a sc w a0 a9 h
  have CB : ∀ w, OTabs w → Calls Tryd.prog 11 #[.int .i64 b, .int .i64 sc] w (fun e w' => e = .returned (.tuple #[.string t, .int .i64 0]) ∧ Below w.heap.size w w') := by
    intro w h; rw [← ht, ← e1, ← e2]; exact text_any b sc w b0 b9 h
  have DA : ∀ w, OTabs w → Calls Tryd.prog 9 #[.string s, .int .i64 sc] w (fun e w' => e = .returned (.tuple #[.int .i64 a, .int .i64 0]) ∧ Below w.heap.size w w') := by
    intro w h; have := dec_any s sc w (by have := HX.small; omega) h; unfold DecRet at this; rw [HX.da.1, HX.da.2] at this; exact this
  have DB : ∀ w, OTabs w → Calls Tryd.prog 9 #[.string t, .int .i64 sc] w (fun e w' => e = .returned (.tuple #[.int .i64 b, .int .i64 0]) ∧ Below w.heap.size w w') := by
    intro w h; have := dec_any t sc w (by have := HX.small; omega) h; unfold DecRet at this; rw [HX.db.1, HX.db.2] at this; exact this
  have GA := Lib.hid CA; have GB := Lib.hid CB; have FA := Lib.hid DA; have FB := Lib.hid DB; have GX := Lib.hid HX; have HT := Lib.hid hT
  have hsz : s.size ≤ 1000 := HX.small.1
  clear CA CB DA DB HX hs ht e1 e2 a0 a9 b0 b9 hT
  have s1 : decide ((sc : Int) < 0) = false := by rw [decide_eq_false_iff_not]; omega
  have s2 : decide (9 < (sc : Int)) = false := by rw [decide_eq_false_iff_not]; omega
  clear h
  go_enter Tryd.func4, Tryd.ntmps4
  go_wp2_with fail
  refine (GA.out w HT.out).mono ?_
  rintro e w1 ⟨rfl, b1⟩
  have T1 := Lib.hid (HT.out.next b1); have B1 := Lib.hid b1; clear b1
  go_wp2_with fail
  refine (GB.out w1 T1.out).mono ?_
  rintro e w2 ⟨rfl, b2⟩
  have T2 := Lib.hid (T1.out.next b2); have B2 := Lib.hid (B1.out.trans (b2.mono B1.out.size)); clear b2
  go_wp2_with fail
  refine (FA.out w2 T2.out).mono ?_
  rintro e w3 ⟨rfl, b3⟩
  have T3 := Lib.hid (T2.out.next b3); have B3 := Lib.hid (B2.out.trans (b3.mono B2.out.size)); clear b3
  go_wp2_with fail
  refine (FB.out w3 T3.out).mono ?_
  rintro e w4 ⟨rfl, b4⟩
  have T4 := Lib.hid (T3.out.next b4); have B4 := Lib.hid (B3.out.trans (b4.mono B3.out.size)); clear b4
  go_wp2_with fail
  go_loop [15, 16] (fun p i => ∃ (k : Nat) (pv : Int), k ≤ s.size ∧ i = .int .i64 k ∧ p = .int .i64 pv ∧ Hid (pv = PV s.size sc k)) (fun _ i => s.size - (intOf i).toNat)
  case atStart =>
    refine ⟨0, 0, by omega, rfl, rfl, Lib.hid ?_⟩
    have := GX.out.long
    have hp := (GX.out.point 0 GX.out.pos)
    unfold PV
    by_cases hz : 0 < sc ∧ s.size ≤ 0 + sc
    · exfalso
      have hd := GX.out.ts
      have hl : s.size = (textF a sc).length := by rw [hd]; show (textF a sc).toArray.size = _; simp
      have hw := wide_le a.natAbs sc
      rw [text_length, if_neg (by omega : ¬ sc = 0)] at hl
      omega
    · rw [if_neg hz]
  case round =>
    obtain ⟨k, pv, hk, rfl, rfl, HP⟩ := hrel
    by_cases hlt : k < s.size
    · have hpt := GX.out.point k hlt
      by_cases hc : s[k] = 46
      · have bc : ((s[k].toNat : Int) == 46) = true := by rw [beq_iff_eq, hc]; rfl
        have hq := hpt.1 hc
        have HQ := Lib.hid hq
        clear hq hpt hc
        go_wp2_with fail
        go_round
        case rel => exact ⟨k + 1, (s.size : Int) - k - 1, by omega, by go_num, rfl, Lib.hid (by have := HQ.out; unfold PV; rw [if_pos (by omega)]; omega)⟩
        case measure => simp [intOf]; omega
      · have bc : ((s[k].toNat : Int) == 46) = false := by
          rw [beq_eq_false_iff_ne]
          intro h
          exact hc (UInt8.toNat_inj.1 (by rw [show (46 : UInt8).toNat = 46 from rfl]; omega))
        have HQ := Lib.hid (fun h => hc (hpt.2 h))
        clear hpt hc
        go_wp2_with fail
        go_round
        case rel => exact ⟨k + 1, pv, by omega, by go_num, rfl, Lib.hid (by
          have hn : ¬ (0 < sc ∧ k + sc + 1 = s.size) := HQ.out
          rw [HP.out]; unfold PV
          by_cases hz : 0 < sc ∧ s.size ≤ k + sc
          · rw [if_pos hz, if_pos (by omega)]
          · rw [if_neg hz, if_neg (by omega)])⟩
        case measure => simp [intOf]; omega
    · obtain rfl : pv = sc := by
        rw [HP.out]; unfold PV
        by_cases hz : 0 < sc
        · rw [if_pos (by omega)]
        · rw [if_neg (by omega)]; omega
      have hpos := GX.out.pos
      have hh := GX.out.head hpos
      by_cases hn : a < 0
      · have bn : decide (a < 0) = true := by rw [decide_eq_true_eq]; exact hn
        have bh : ((s[0].toNat : Int) == 45) = true := by rw [beq_iff_eq, hh.2 hn]; rfl
        clear hh hn
        rcases GX.out.same with rfl | ⟨h1, h2⟩
        · obtain rfl : s = t := GX.out.ts.trans GX.out.tt.symm
          go_wp2_with fail
          refine (awake_any w4 T4.out).mono ?_
          rintro e w5 ⟨rfl, b5⟩
          have B5 := Lib.hid (B4.out.trans (b5.mono B4.out.size)); clear b5
          go_wp2_with fail
          go_ret
          exact ⟨ret_bool (by simp), B5.out⟩
        · have b1 : (a == b) = false := by rw [beq_eq_false_iff_ne]; exact h1
          have b2 : (s.toList == t.toList) = false := by rw [beq_eq_false_iff_ne]; exact h2
          clear h1 h2
          go_wp2_with fail
          refine (awake_any w4 T4.out).mono ?_
          rintro e w5 ⟨rfl, b5⟩
          have B5 := Lib.hid (B4.out.trans (b5.mono B4.out.size)); clear b5
          go_wp2_with fail
          go_ret
          exact ⟨ret_bool (by simp), B5.out⟩
      · have bn : decide (a < 0) = false := by rw [decide_eq_false_iff_not]; exact hn
        have bh : ((s[0].toNat : Int) == 45) = false := by
          rw [beq_eq_false_iff_ne]
          intro h
          exact hn (hh.1 (UInt8.toNat_inj.1 (by rw [show (45 : UInt8).toNat = 45 from rfl]; omega)))
        clear hh hn
        rcases GX.out.same with rfl | ⟨h1, h2⟩
        · obtain rfl : s = t := GX.out.ts.trans GX.out.tt.symm
          go_wp2_with fail
          refine (awake_any w4 T4.out).mono ?_
          rintro e w5 ⟨rfl, b5⟩
          have B5 := Lib.hid (B4.out.trans (b5.mono B4.out.size)); clear b5
          go_wp2_with fail
          go_ret
          exact ⟨ret_bool (by simp), B5.out⟩
        · have b1 : (a == b) = false := by rw [beq_eq_false_iff_ne]; exact h1
          have b2 : (s.toList == t.toList) = false := by rw [beq_eq_false_iff_ne]; exact h2
          clear h1 h2
          go_wp2_with fail
          refine (awake_any w4 T4.out).mono ?_
          rintro e w5 ⟨rfl, b5⟩
          have B5 := Lib.hid (B4.out.trans (b5.mono B4.out.size)); clear b5
          go_wp2_with fail
          go_ret
          exact ⟨ret_bool (by simp), B5.out⟩

theorem walk (a b scale : Int) (w : World) (a0 : -9223372036854775808 ≤ a) (a9 : a ≤ 9223372036854775807) (b0 : -9223372036854775808 ≤ b) (b9 : b ≤ 9223372036854775807) (hT : OTabs w) :
    Calls Tryd.prog 4 #[.int .i64 a, .int .i64 b, .int .i64 scale] w (BoolB true w) := by
  by_cases h : scale < 0 ∨ 9 < scale
  · exact out a b scale w a0 a9 b0 b9 hT h
  · obtain ⟨sc, rfl⟩ : ∃ n : Nat, scale = n := ⟨scale.toNat, by omega⟩
    exact inn a b sc w a0 a9 b0 b9 hT (by omega)
end Go.Proofs.YtebagmiclfhelaaDoor.OrderWrittenWalk
