/- Contracts: a number's text, of the document's answer and of the program. -/
import Derived.Test.YtinmiekbhoemjaaDoorPack11
import Derived.WalkLawsBesides
import Derived.BigQuiet
import Derived.Deep.QuietTactic
import Derived.RegionTactic
import Derived.Deep.CutBlock
import Derived.Lib.AppendIntMem
set_option linter.unusedVariables false
namespace OrdP
open Go.Lib Go
/-- What the document's loop has written behind k rounds. -/
def sk (u sc k : Nat) : List UInt8 := if k ≤ sc then lowD u k else lowD (u / 10 ^ sc) (k - sc) ++ (if sc = 0 then [] else 46 :: lowD u sc)
theorem low_one (v k : Nat) : lowD v (k + 1) = UInt8.ofNat (48 + v / 10 ^ k % 10) :: lowD v k := by
  have := lowD_add v k 1
  rw [Nat.add_comm] at this
  rw [this]; rfl
theorem sk_step (u sc k : Nat) : sk u sc (k + 1) = UInt8.ofNat (48 + u / 10 ^ k % 10) :: ((if k = sc ∧ 0 < sc then [46] else []) ++ sk u sc k) := by
  unfold sk
  by_cases h1 : k + 1 ≤ sc
  · have a1 : k ≤ sc := by omega
    have a2 : ¬ (k = sc ∧ 0 < sc) := by omega
    rw [if_pos h1, low_one, if_neg a2, if_pos a1]; rfl
  · rw [if_neg h1, show k + 1 - sc = (k - sc) + 1 by omega, low_one, Nat.div_div_eq_div_mul, ← Nat.pow_add, show sc + (k - sc) = k by omega]
    by_cases h2 : k = sc
    · subst h2
      rw [Nat.sub_self, if_pos (Nat.le_refl _)]
      by_cases h3 : k = 0
      · subst h3; simp [lowD]
      · have a2 : k = k ∧ 0 < k := ⟨rfl, by omega⟩
        rw [if_neg h3, if_pos a2]; rfl
    · have a1 : ¬ k ≤ sc := by omega
      have a2 : ¬ (k = sc ∧ 0 < sc) := by omega
      rw [if_neg a2, if_neg a1]; rfl
theorem sk_end (u sc : Nat) : sk u sc (wide u sc) = textU u sc := by
  unfold sk textU
  rw [if_neg (by have := wide_le u sc; omega)]
theorem wide_iff (u sc k : Nat) : k < wide u sc ↔ (k ≤ sc ∨ 0 < u / 10 ^ k) := by
  unfold wide
  constructor
  · intro h
    by_cases h1 : k ≤ sc
    · exact .inl h1
    · right
      have h2 : k < nDigits u := by omega
      rw [Nat.div_pos_iff]
      have hu : 1 ≤ u := by
        rcases Nat.eq_zero_or_pos u with h0 | h0
        · rw [h0, nd_one (by omega)] at h2; omega
        · exact h0
      have := nd_pow u hu
      exact ⟨Nat.pow_pos (by omega), Nat.le_trans (Nat.pow_le_pow_right (by omega) (by omega)) this⟩
  · rintro (h | h)
    · omega
    · have h1 := (Nat.div_pos_iff.1 h).2
      have h2 := lt_pow_nDigits u
      rcases Nat.lt_or_ge k (nDigits u) with h3 | h3
      · omega
      · have := Nat.pow_le_pow_right (show 0 < 10 by omega) h3; omega
theorem sk_len (u sc k : Nat) : (sk u sc k).length ≤ k + 1 := by
  unfold sk
  split
  · rw [lowD_length]; omega
  · rw [List.length_append, lowD_length]
    by_cases h : sc = 0 <;> simp [h, lowD_length] <;> omega
theorem wide_small (u sc : Nat) (hu : u ≤ 9223372036854775808) (hsc : sc ≤ 9) : wide u sc ≤ 19 := by
  have : nDigits u ≤ 19 := nd_le u 19 (by omega) (by omega)
  unfold wide; omega
theorem u64_abs (n : Int) (h0 : -9223372036854775808 ≤ n) (h1 : n < 0) : IntKind.u64.wrap (-(IntKind.u64.wrap n)) = (n.natAbs : Int) := by
  have e : ∀ m : Int, IntKind.u64.wrap m = m % 18446744073709551616 := fun m => by simp [IntKind.wrap, IntKind.signed, IntKind.bits]
  rw [e, e]; omega
theorem u64_pos (n : Int) (h0 : 0 ≤ n) (h1 : n ≤ 9223372036854775807) : IntKind.u64.wrap n = (n.natAbs : Int) := by
  have e : ∀ m : Int, IntKind.u64.wrap m = m % 18446744073709551616 := fun m => by simp [IntKind.wrap, IntKind.signed, IntKind.bits]
  rw [e]; omega
end OrdP
namespace Go.Proofs.YtinmiekbhoemjaaDoor.OrdLib
open Go.RowKit Go.Lib OrdP Kit OrdRef

def txtS (n : Int) (scale : Int) : List UInt8 := if scale < 0 ∨ 9 < scale then [] else textF n scale.toNat
def txtE (scale : Int) : Int := if scale < 0 ∨ 9 < scale then 1 else 0
def TextRet (n scale : Int) (w : World) (e : Ending) (w' : World) : Prop := e = .returned (.tuple #[.string (str (txtS n scale)), .int .i64 (txtE scale)]) ∧ Below w.heap.size w w'
theorem text_out {n scale : Int} {w w' : World} (h : scale < 0 ∨ 9 < scale) (hb : Below w.heap.size w w') : TextRet n scale w (.returned (.tuple #[.string (str []), .int .i64 1])) w' :=
  ⟨by unfold txtS txtE; rw [if_pos h, if_pos h], hb⟩
theorem text_in {n : Int} {sc : Nat} {f : ByteArray} {w w' : World} (h : sc ≤ 9) (hf : f = str (textF n sc)) (hb : Below w.heap.size w w') : TextRet n sc w (.returned (.tuple #[.string f, .int .i64 0])) w' :=
  ⟨by unfold txtS txtE; rw [if_neg (by omega), if_neg (by omega), Int.toNat_natCast, hf], hb⟩
theorem u8_small (x : Nat) (h : x < 10) : ((UInt8.ofNat (48 + x)).toNat : Int) = 48 + (x : Int) := by
  rw [UInt8.toNat_ofNat']; omega

set_option maxRecDepth 100000 in
set_option maxHeartbeats 4000000 in
theorem refText_in (n : Int) (sc : Nat) (w : World) (h0 : -9223372036854775808 ≤ n) (h1 : n ≤ 9223372036854775807) (hsc : sc ≤ 9) :
    Calls Tryd.prog 75 #[.int .i64 n, .int .i64 sc] w (TextRet n sc w) := by
  have d1 : decide ((sc : Int) < 0) = false := by rw [decide_eq_false_iff_not]; omega
  have d2 : decide (9 < (sc : Int)) = false := by rw [decide_eq_false_iff_not]; omega
  go_enter Tryd.func75, Tryd.ntmps75
  go_upto_if 18 with fail
  clear d1 d2
  obtain ⟨U, hU⟩ : ∃ U, n.natAbs = U := ⟨_, rfl⟩
  have hUb : U ≤ 9223372036854775808 := by omega
  have HU := Lib.hid hU
  go_cut [6] (fun u wx => u = .int .u64 (U : Int) ∧ w = wx)
  case first =>
    by_cases hn : n < 0
    · have t1 : decide (n < 0) = true := by rw [decide_eq_true_eq]; exact hn
      have HE := Lib.hid (u64_abs n h0 hn)
      clear hU
      go_wp2_with fail
      go_meet
      exact ⟨by rw [HE.out, HU.out], rfl⟩
    · have t1 : decide (n < 0) = false := by rw [decide_eq_false_iff_not]; exact hn
      have HE := Lib.hid (u64_pos n (by omega) h1)
      have hn2 : 0 ≤ n := by omega
      clear hn hU
      go_wp2_with fail
      go_meet
      exact ⟨by rw [HE.out, HU.out], rfl⟩
  case rest =>
  obtain ⟨rfl, rfl⟩ := hcut
  clear hU
  have hws := wide_small U sc hUb hsc
  obtain ⟨L, hL⟩ : ∃ L, wide U sc = L := ⟨_, rfl⟩
  rw [hL] at hws
  have HL := Lib.hid hL
  clear hL
  go_upto_block 0 with fail
  go_cut [6, 7, 8] (fun _ s _ wx => s = .string (str (textU U sc)) ∧ Below w.heap.size w wx)
  case first =>
    go_wp2_with fail
    go_loopw [6, 7, 8] (fun u s i wr => ∃ k v : Nat, k ≤ L ∧ v ≤ 9223372036854775808 ∧ u = .int .u64 v ∧ Hid (v = U / 10 ^ k) ∧ s = .string (str (sk U sc k)) ∧ i = .int .i64 k ∧ Below w.heap.size w wr) (fun _ _ i _ => L - (RowKit.intOf i).toNat)
    case atStart => exact ⟨0, U, Nat.zero_le _, hUb, rfl, Lib.hid (by rw [Nat.pow_zero, Nat.div_one]), rfl, rfl, Below.refl _ _⟩
    case round =>
      obtain ⟨k, v, hk, hvb, rfl, HV, rfl, rfl, hB⟩ := hrel
      have HB := Lib.hid hB; clear hB
      have hsl := sk_len U sc k
      obtain ⟨f, hf⟩ : ∃ f, str (sk U sc k) = f := ⟨_, rfl⟩
      have hfs : f.size ≤ k + 1 := by rw [← hf, str_size]; exact hsl
      rw [hf]
      have HF := Lib.hid hf
      clear hsl hf
      have hwi := wide_iff U sc k
      rw [HL.out] at hwi
      rw [← HV.out] at hwi
      by_cases hlt : k < L
      · have hst := sk_step U sc k
        rw [← HV.out] at hst
        have hc0 : ((UInt8.ofNat (48 + v % 10)).toNat : Int) = 48 + (v : Int) % 10 := by have := u8_small (v % 10) (by omega); omega
        have hcv : (convert 43 9 (.slice (some ⟨wr.heap.size, 0, none⟩) 1 1)).run Tryd.prog (wr.alloc (.cells #[.int .u8 (48 + (v : Int) % 10)] 5)) = .ok (.string (str [UInt8.ofNat (48 + v % 10)])) (wr.alloc (.cells #[.int .u8 (48 + (v : Int) % 10)] 5)) :=
          run_convert_own (P := Tryd.prog) (wr.alloc (.cells #[.int .u8 (48 + (v : Int) % 10)] 5)) 43 9 5 Tryd.underlying43 Tryd.underlying5 Tryd.underlying9 (n := 1) (l := [UInt8.ofNat (48 + v % 10)]) rfl
          (by have := own_new wr wr.heap.size 5 [UInt8.ofNat (48 + v % 10)] (Nat.le_refl _) (by show 1 ≤ maxLen; unfold maxLen; decide); simp only [byteCells, List.map_cons, List.map_nil, hc0] at this ⊢; exact this)
        have hst' : str (sk U sc (k + 1)) = str [UInt8.ofNat (48 + v % 10)] ++ (str (if k = sc ∧ 0 < sc then [46] else []) ++ f) := by
          rw [hst, ← HF.out, ← str_app, ← str_app]; rfl
        have HST := Lib.hid hst'
        have hdiv : v / 10 = U / 10 ^ (k + 1) := by rw [HV.out, Nat.div_div_eq_div_mul, Nat.pow_succ]
        have HDIV := Lib.hid hdiv
        obtain ⟨dg, hdg⟩ : ∃ dg, str [UInt8.ofNat (48 + v % 10)] = dg := ⟨_, rfl⟩
        rw [hdg] at hcv
        have hds : dg.size = 1 := by rw [← hdg]; rfl
        have HDG := Lib.hid hdg
        have hds2 : dg.size ≤ 1 := by omega
        clear hst hst' hdiv hc0 hwi hdg hds
        have hBs := HB.out.size
        by_cases hle : k ≤ sc
        · have b1 : decide (k ≤ sc) = true := by rw [decide_eq_true_eq]; exact hle
          by_cases heq : k = sc
          · have b2 : ((k : Int) == (sc : Int)) = true := by rw [beq_iff_eq]; omega
            by_cases hz : 0 < sc
            · have b3 : decide (0 < (sc : Int)) = true := by rw [decide_eq_true_eq]; omega
              have hsk : str (sk U sc (k + 1)) = dg ++ (⟨#[46]⟩ ++ f) := by rw [HST.out, HDG.out, if_pos ⟨heq, hz⟩]; rfl
              have HSK := Lib.hid hsk
              clear hsk heq
              go_wp2_with fail
              go_roundw
              case rel => exact ⟨k + 1, v / 10, by omega, by omega, by go_num, HDIV, by rw [HSK.out], by go_num, HB.out.alloc HB.out.size _⟩
              case measure => simp [RowKit.intOf]; omega
            · have b3 : decide (0 < (sc : Int)) = false := by rw [decide_eq_false_iff_not]; omega
              have hsk : str (sk U sc (k + 1)) = dg ++ f := by rw [HST.out, HDG.out, if_neg (fun h => hz h.2)]; apply ByteArray.ext; simp [str, ByteArray.data_append]
              have HSK := Lib.hid hsk
              clear hsk heq
              go_wp2_with fail
              go_roundw
              case rel => exact ⟨k + 1, v / 10, by omega, by omega, by go_num, HDIV, by rw [HSK.out], by go_num, HB.out.alloc HB.out.size _⟩
              case measure => simp [RowKit.intOf]; omega
          · have b2 : ((k : Int) == (sc : Int)) = false := by rw [beq_eq_false_iff_ne]; omega
            have hsk : str (sk U sc (k + 1)) = dg ++ f := by rw [HST.out, HDG.out, if_neg (fun h => heq h.1)]; apply ByteArray.ext; simp [str, ByteArray.data_append]
            have HSK := Lib.hid hsk
            clear hsk heq
            go_wp2_with fail
            go_roundw
            case rel => exact ⟨k + 1, v / 10, by omega, by omega, by go_num, HDIV, by rw [HSK.out], by go_num, HB.out.alloc HB.out.size _⟩
            case measure => simp [RowKit.intOf]; omega
        · have b1 : decide (k ≤ sc) = false := by rw [decide_eq_false_iff_not]; exact hle
          have hv0 : 0 < v := by
            have hwi := (wide_iff U sc k).1 (by rw [HL.out]; exact hlt)
            rw [← HV.out] at hwi
            rcases hwi with h | h
            · exact (hle h).elim
            · exact h
          have b4 : decide ((0 : Int) < (v : Int)) = true := by rw [decide_eq_true_eq]; omega
          have b2 : ((k : Int) == (sc : Int)) = false := by rw [beq_eq_false_iff_ne]; omega
          have hsk : str (sk U sc (k + 1)) = dg ++ f := by rw [HST.out, HDG.out, if_neg (fun h => hle (by omega))]; apply ByteArray.ext; simp [str, ByteArray.data_append]
          have HSK := Lib.hid hsk
          clear hsk
          go_wp2_with fail
          go_roundw
          case rel => exact ⟨k + 1, v / 10, by omega, by omega, by go_num, HDIV, by rw [HSK.out], by go_num, HB.out.alloc HB.out.size _⟩
          case measure => simp [RowKit.intOf]; omega
      · have hnw : ¬ (k ≤ sc ∨ 0 < v) := fun h => by
          have := (wide_iff U sc k).2 (by rw [← HV.out]; exact h)
          rw [HL.out] at this; exact hlt this
        have b1 : decide (k ≤ sc) = false := by rw [decide_eq_false_iff_not]; exact fun h => hnw (.inl h)
        have b4 : v ≤ 0 := by
          rcases Nat.lt_or_ge 0 v with h | h
          · exact (hnw (.inr h)).elim
          · exact h
        clear hnw hwi
        go_wp2_with fail
        go_meet
        exact ⟨by rw [← HF.out, show k = L by omega, ← HL.out, sk_end], HB.out⟩
  case rest =>
  obtain ⟨rfl, hB⟩ := hcut
  have HB := Lib.hid hB
  have hsl := sk_len U sc L
  rw [← HL.out, sk_end] at hsl
  rw [HL.out] at hsl
  obtain ⟨f, hf⟩ : ∃ f, str (textU U sc) = f := ⟨_, rfl⟩
  have hfs : f.size ≤ 20 := by rw [← hf, str_size]; omega
  rw [hf]
  have HF := Lib.hid hf
  clear hf hsl hB
  by_cases hn : n < 0
  · have hn2 : n < 0 := hn
    have ht : ⟨#[45]⟩ ++ f = str (textF n sc) := by rw [← HF.out]; unfold textF; rw [if_pos hn, HU.out, str_app]; rfl
    have HTX := Lib.hid ht
    clear ht
    go_wp2_with fail
    go_ret2
    exact text_in hsc HTX.out HB.out
  · have hn2 : 0 ≤ n := by omega
    have ht : f = str (textF n sc) := by rw [← HF.out]; unfold textF; rw [if_neg hn, HU.out]; rfl
    have HTX := Lib.hid ht
    clear ht hn
    go_wp2_with fail
    go_ret2
    exact text_in hsc HTX.out HB.out

theorem refText_any (n scale : Int) (w : World) (h0 : -9223372036854775808 ≤ n) (h1 : n ≤ 9223372036854775807) :
    Calls Tryd.prog 75 #[.int .i64 n, .int .i64 scale] w (TextRet n scale w) := by
  by_cases h : scale < 0 ∨ 9 < scale
  · have HO := Lib.hid h
    have d12 : decide (scale < 0) = true ∨ (decide (scale < 0) = false ∧ decide (9 < scale) = true) := by
      by_cases h1 : scale < 0
      · left; rw [decide_eq_true_eq]; exact h1
      · right; exact ⟨by rw [decide_eq_false_iff_not]; exact h1, by rw [decide_eq_true_eq]; omega⟩
    clear h
    rcases d12 with d1 | ⟨d1, d2⟩
    all_goals
      go_enter Tryd.func75, Tryd.ntmps75
      go_wp2_with fail
      go_ret2
      exact text_out HO.out (Below.refl _ _)
  · obtain ⟨sc, rfl⟩ : ∃ sc : Nat, scale = sc := ⟨scale.toNat, by omega⟩
    exact refText_in n sc w h0 h1 (by omega)

theorem format_any (n : Int) (h0 : -9223372036854775808 ≤ n) (h1 : n ≤ 9223372036854775807) (z : ByteArray) (hz : z = str (itoa n)) (w : World) (hT : Lib.TabIs Tryd.prog w "internal/strconv.uint64pow10" .u64 Lib.pow10Tab) :
    Calls Tryd.prog 74 #[.int .i64 n, .int .i64 10] w (fun e w' => e = .returned (.string z) ∧ Below w.heap.size w w') := by
  subst hz
  refine (Tryd.strconv_FormatInt_10 n h0 h1 w hT).mono fun e w' ⟨he, k, os, hw⟩ => ⟨he, ?_⟩
  subst hw
  exact below_grow _ _ (Nat.le_refl _) _ _

/-- The powers of ten stay where they are. -/
theorem pow_next {w w' : World} (h : Lib.TabIs Tryd.prog w "internal/strconv.uint64pow10" .u64 Lib.pow10Tab) (hb : Below w.heap.size w w') : Lib.TabIs Tryd.prog w' "internal/strconv.uint64pow10" .u64 Lib.pow10Tab := Go.Joins.tab_stays (g := 1) (by kernel_rfl) h hb (Nat.le_refl _)
end Go.Proofs.YtinmiekbhoemjaaDoor.OrdLib
