/- Contracts: the document's word, may, runs. -/
import Derived.Test.YtinmiekbhoemjaaGreatDoorAnaEnd
import Derived.Test.YtinmiekbhoemjaaGreatDoorPack29
set_option linter.unusedVariables false
namespace Go.Proofs.YtinmiekbhoemjaaGreatDoor.Ana
open Go.RowKit Go.Lib AnaP Words Tree Kit Owned FoldP FoldInts FoldAmong

theorem refWord_any (r : Int) (w : World) : Calls Tryz.prog 80 #[.int .i32 r] w (BoolBelow (wordF r) w) := by
  have HR : Hid (wordF r = (letterF r || digitF r)) := Lib.hid rfl
  cases hl : letterF r with
  | true =>
    have HC : Hid (∀ W, Calls Tryz.prog 101 #[.int .i32 r] W (BoolBelow true W)) := Lib.hid (fun W => by rw [← hl]; exact refLetter_any r W)
    have HE : Hid (wordF r = true) := Lib.hid (by rw [HR.out, hl]; rfl)
    clear hl
    go_enter Tryz.func80, Tryz.ntmps80
    go_wp2_with fail
    refine (HC.out _).mono ?_
    rintro e w' ⟨rfl, b1⟩
    have HB := Lib.hid b1; clear b1
    go_wp2_with fail
    go_ret
    rw [HE.out]
    exact ⟨rfl, HB.out⟩
  | false =>
    have HC : Hid (∀ W, Calls Tryz.prog 101 #[.int .i32 r] W (BoolBelow false W)) := Lib.hid (fun W => by rw [← hl]; exact refLetter_any r W)
    have HE : Hid (wordF r = digitF r) := Lib.hid (by rw [HR.out, hl]; rfl)
    clear hl
    go_enter Tryz.func80, Tryz.ntmps80
    go_wp2_with fail
    refine (HC.out _).mono ?_
    rintro e w' ⟨rfl, b1⟩
    have HB := Lib.hid b1; clear b1
    go_wp2_with fail
    refine (refDigit_any r _).mono ?_
    rintro e w2 ⟨rfl, b2⟩
    have HB2 := Lib.hid (HB.out.trans (b2.mono HB.out.size)); clear b2
    go_wp2_with fail
    go_ret
    rw [HE.out]
    exact ⟨rfl, HB2.out⟩
theorem refMay1_any (r : Int) (w : World) : Calls Tryz.prog 79 #[.int .i64 1, .int .i32 r] w (BoolBelow (mayF r) w) := by
  have HR : Hid (mayF r = (wordF r || markF r)) := Lib.hid rfl
  cases hl : wordF r with
  | true =>
    have HC : Hid (∀ W, Calls Tryz.prog 80 #[.int .i32 r] W (BoolBelow true W)) := Lib.hid (fun W => by rw [← hl]; exact refWord_any r W)
    have HE : Hid (mayF r = true) := Lib.hid (by rw [HR.out, hl]; rfl)
    clear hl
    go_enter Tryz.func79, Tryz.ntmps79
    go_wp2_with fail
    refine (HC.out _).mono ?_
    rintro e w' ⟨rfl, b1⟩
    have HB := Lib.hid b1; clear b1
    go_wp2_with fail
    go_ret
    rw [HE.out]
    exact ⟨rfl, HB.out⟩
  | false =>
    have HC : Hid (∀ W, Calls Tryz.prog 80 #[.int .i32 r] W (BoolBelow false W)) := Lib.hid (fun W => by rw [← hl]; exact refWord_any r W)
    have HE : Hid (mayF r = markF r) := Lib.hid (by rw [HR.out, hl]; rfl)
    clear hl
    go_enter Tryz.func79, Tryz.ntmps79
    go_wp2_with fail
    refine (HC.out _).mono ?_
    rintro e w' ⟨rfl, b1⟩
    have HB := Lib.hid b1; clear b1
    go_wp2_with fail
    refine (refMark_any r _).mono ?_
    rintro e w2 ⟨rfl, b2⟩
    have HB2 := Lib.hid (HB.out.trans (b2.mono HB.out.size)); clear b2
    go_wp2_with fail
    go_ret
    rw [HE.out]
    exact ⟨rfl, HB2.out⟩
theorem refMay2_any (r : Int) (w : World) : Calls Tryz.prog 79 #[.int .i64 2, .int .i32 r] w (BoolBelow (solidF r) w) := by
  have HR : Hid (solidF r = !blankF r) := Lib.hid rfl
  have HC := Lib.hid (refBlank_any r)
  generalize blankF r = b at *
  go_enter Tryz.func79, Tryz.ntmps79
  go_wp2_with fail
  refine (HC.out _).mono ?_
  rintro e w' ⟨rfl, rfl⟩
  go_wp2_with fail
  go_ret
  rw [HR.out]
  exact ⟨rfl, Below.refl _ _⟩

def runeCells (l : List Int) : List Value := l.map (Value.int .i32)
theorem reads_rune {w : World} {B n : Nat} {ao : Option Addr} {xs : List Int} (h : Reads w B 1 ao n (runeCells xs)) (hn : n = xs.length) {k : Nat} (hk : k < xs.length) : ∃ ad, ao = some ad ∧ ad.block < B ∧ w.cell? (ad.add k) = some (.int .i32 xs[k]) := by
  obtain ⟨ad, e, hb, hc⟩ := h.2 (by omega)
  exact ⟨ad, e, hb, hc k _ (by simp [runeCells, hk])⟩
theorem infoPair : (Tryz.prog.info? 114).map (fun i => (i.zero, i.size, i.bytes)) = some (some (.agg #[.int .i64 0, .int .i64 0]), 2, 16) := by kernel_rfl
def pairC (c : Nat × Nat) : List Value := [.int .i64 (c.1 : Int), .int .i64 (c.2 : Int)]
def pairCells (l : List (Nat × Nat)) : List Value := l.flatMap pairC
theorem pairCells_append (a b : List (Nat × Nat)) : pairCells (a ++ b) = pairCells a ++ pairCells b := by simp [pairCells]
theorem pair_one {u : Value} {ts : List (Nat × Nat)} (h : u ∈ pairCells ts) : u.oneCell' = true := by
  unfold pairCells at h
  rw [List.mem_flatMap] at h
  obtain ⟨t, _, h⟩ := h
  simp only [pairC, List.mem_cons, List.not_mem_nil, or_false] at h
  rcases h with rfl | rfl <;> rfl
theorem pairC_len (c : Nat × Nat) : (pairC c).length = 2 := rfl
/-- A row of pairs of the call's own. -/
def OwnPairs (l : List (Nat × Nat)) (w : World) (e : Ending) (w' : World) : Prop := ∃ v, e = .returned v ∧ w'.ownsRow w.heap.size 114 2 v l.length (pairCells l) ∧ Below w.heap.size w w'
theorem own_slice2 {w : World} {B n m : Nat} {e : TypeId} {v : Value} {xs : List Value} (h : w.ownsRow B e m v n xs) : ∃ ao cap, v = .slice ao n cap := by
  rcases h.2 with ⟨rfl, h0⟩ | ⟨g, cap, cur, rfl, _⟩
  · exact ⟨none, 0, by rw [h0]⟩
  · exact ⟨_, _, rfl⟩
theorem runIx_end (may begins : Int → Bool) (l : List Int) (k a : Nat) (h : k = l.length ∨ ∃ r, l.drop k = r :: l.drop (k + 1) ∧ may r = false) : runIx may begins (l.drop k) k (some a) = (a, k) :: runIx may begins (l.drop k) k none := by
  rcases h with rfl | ⟨r, h1, h2⟩
  · rw [List.drop_length]; rfl
  · rw [h1]; simp [runIx, h2]
theorem runIx_on (may begins : Int → Bool) (l : List Int) (k a : Nat) {r : Int} (h1 : l.drop k = r :: l.drop (k + 1)) (h2 : may r = true) : runIx may begins (l.drop k) k (some a) = runIx may begins (l.drop (k + 1)) (k + 1) (some a) := by
  rw [h1]; simp [runIx, h2]
theorem runIx_skip (may begins : Int → Bool) (l : List Int) (k : Nat) {r : Int} (h1 : l.drop k = r :: l.drop (k + 1)) (h2 : (may r && begins r) = false) : runIx may begins (l.drop k) k none = runIx may begins (l.drop (k + 1)) (k + 1) none := by
  rw [h1]; simp [runIx, h2]
theorem runIx_go (may begins : Int → Bool) (l : List Int) (k : Nat) {r : Int} (h1 : l.drop k = r :: l.drop (k + 1)) (h2 : (may r && begins r) = true) : runIx may begins (l.drop k) k none = runIx may begins (l.drop k) k (some k) := by
  have h3 : may r = true := by rw [Bool.and_eq_true] at h2; exact h2.1
  rw [runIx_on may begins l k k h1 h3, h1]; simp only [runIx]; rw [if_pos h2]
theorem drop_get {l : List Int} {k : Nat} (h : k < l.length) : l.drop k = l[k] :: l.drop (k + 1) := List.drop_eq_getElem_cons h


set_option maxRecDepth 100000 in
set_option maxHeartbeats 4000000 in
theorem refRuns_1 (ao : Option Addr) (c : Nat) (l : List Int) (w : World) (hl : l.length ≤ 1099511627776) (hk : Reads w w.heap.size 1 ao l.length (runeCells l)) :
    Calls Tryz.prog 67 #[.int .i64 1, .slice ao l.length c] w (OwnPairs (runIx mayF wordF l 0 none) w) := by
  obtain ⟨R, hR⟩ : ∃ R, runIx mayF wordF l 0 none = R := ⟨_, rfl⟩
  have HR : Hid (([] : List (Nat × Nat)) ++ runIx mayF wordF (l.drop 0) 0 none = R) := Lib.hid hR
  rw [hR]
  obtain ⟨i0, hi, hz0, hz1, hz2⟩ := info_parts infoPair
  have HI1 := Lib.hid hi; have HI2 := Lib.hid hz0; have HI3 := Lib.hid hz1; have HI4 := Lib.hid hz2
  have HK := Lib.hid hk
  clear hR hi hz0 hz1 hz2 hk
  go_enter Tryz.func67, Tryz.ntmps67
  go_wp2_with fail
  go_loopw [5, 6, 7] (fun o i _ wr => ∃ (k : Nat) (cuts : List (Nat × Nat)), k ≤ l.length ∧ cuts.length ≤ k ∧ i = .int .i64 k ∧ Hid (wr.ownsRow w.heap.size 114 2 o cuts.length (pairCells cuts)) ∧ Hid (cuts ++ runIx mayF wordF (l.drop k) k none = R) ∧ Hid (Below w.heap.size w wr)) (fun _ i _ _ => l.length - (RowKit.intOf i).toNat)
  case atStart => exact ⟨0, [], by omega, by simp, rfl, Lib.hid (World.ownsRow_nil _ _ _ _), HR, Lib.hid (Below.refl _ _)⟩
  case round =>
    obtain ⟨i, cuts, hi, hcl, rfl, HO, HE, HW⟩ := hrel
    have hzr := HW.out.size
    obtain ⟨wo, hwo⟩ : ∃ wo : World, wo = wr := ⟨_, rfl⟩
    have HWO := Lib.hid hwo; clear hwo
    by_cases hlt : i < l.length
    · obtain ⟨ad, rfl, hba, hc⟩ := reads_rune HK.out rfl hlt
      have hcw : wr.cell? (ad.add i) = some (.int .i32 l[i]) := (HW.out.cell (by rw [block_of_add]; exact hba)).trans hc
      have HD := Lib.hid (drop_get hlt)
      clear hc
      obtain ⟨x, hx⟩ : ∃ x, l[i] = x := ⟨_, rfl⟩
      have HX0 : Hid (l[i] = x) := Lib.hid hx
      rw [hx] at hcw HD
      clear hx
      cases hm : mayF x with
      | false =>
        have HC : Hid (∀ W, Calls Tryz.prog 79 #[.int .i64 1, .int .i32 x] W (BoolBelow false W)) := Lib.hid (fun W => by rw [← hm]; exact refMay1_any x W)
        have HE2 : Hid (cuts ++ runIx mayF wordF (l.drop (i + 1)) (i + 1) none = R) := Lib.hid (by rw [← HE.out, runIx_skip _ _ _ _ HD.out (by rw [hm]; rfl)])
        clear hm
        go_wp2_with fail
        refine (HC.out _).mono ?_
        rintro e w3 ⟨rfl, b3⟩
        have HO3 := Lib.hid (own_below HO.out b3)
        have HW3 := Lib.hid (HW.out.trans (b3.mono hzr))
        clear b3 hcw
        go_wp2_with fail
        go_roundw
        case rel => exact ⟨i + 1, cuts, by omega, by omega, by go_num, HO3, HE2, HW3⟩
        case measure => simp [RowKit.intOf]; omega
      | true =>
        have HC : Hid (∀ W, Calls Tryz.prog 79 #[.int .i64 1, .int .i32 x] W (BoolBelow true W)) := Lib.hid (fun W => by rw [← hm]; exact refMay1_any x W)
        have HMX := Lib.hid hm
        clear hm
        cases hb : wordF x with
        | false =>
          have HC2 : Hid (∀ W, Calls Tryz.prog 80 #[.int .i32 x] W (BoolBelow false W)) := Lib.hid (fun W => by rw [← hb]; exact refWord_any x W)
          have HE2 : Hid (cuts ++ runIx mayF wordF (l.drop (i + 1)) (i + 1) none = R) := Lib.hid (by rw [← HE.out, runIx_skip _ _ _ _ HD.out (by rw [hb, Bool.and_false])])
          clear hb
          go_wp2_with fail
          refine (HC.out _).mono ?_
          rintro e w3 ⟨rfl, b3⟩
          have HO3 := Lib.hid (own_below HO.out b3)
          have HW3 := Lib.hid (HW.out.trans (b3.mono hzr))
          have hcw3 : w3.cell? (ad.add i) = some (.int .i32 x) := (b3.cell (by rw [block_of_add]; omega)).trans hcw
          clear b3 hcw
          go_wp2_with fail
          refine (HC2.out _).mono ?_
          rintro e w4 ⟨rfl, b4⟩
          have HO4 := Lib.hid (own_below HO3.out b4)
          have HW4 := Lib.hid (HW3.out.trans (b4.mono HW3.out.size))
          clear b4 hcw3
          go_wp2_with fail
          go_roundw
          case rel => exact ⟨i + 1, cuts, by omega, by omega, by go_num, HO4, HE2, HW4⟩
          case measure => simp [RowKit.intOf]; omega
        | true =>
          have HC2 : Hid (∀ W, Calls Tryz.prog 80 #[.int .i32 x] W (BoolBelow true W)) := Lib.hid (fun W => by rw [← hb]; exact refWord_any x W)
          have HS : Hid (cuts ++ runIx mayF wordF (l.drop i) i (some i) = R) := Lib.hid (by rw [← HE.out, ← runIx_go _ _ _ _ HD.out (by rw [HMX.out, hb]; rfl)])
          clear hb
          go_wp2_with fail
          refine (HC.out _).mono ?_
          rintro e w3 ⟨rfl, b3⟩
          have HO3 := Lib.hid (own_below HO.out b3)
          have HW3 := Lib.hid (HW.out.trans (b3.mono hzr))
          have hcw3 : w3.cell? (ad.add i) = some (.int .i32 x) := (b3.cell (by rw [block_of_add]; omega)).trans hcw
          clear b3 hcw
          go_wp2_with fail
          refine (HC2.out _).mono ?_
          rintro e w4 ⟨rfl, b4⟩
          have HO4 := Lib.hid (own_below HO3.out b4)
          have HW4 := Lib.hid (HW3.out.trans (b4.mono HW3.out.size))
          clear b4 hcw3 HO HO3 HW HW3 HWO wo
          have HO := HO4
          clear HO4
          obtain ⟨wo, hwo⟩ : ∃ wo : World, w4 = wo := ⟨_, rfl⟩
          rw [hwo] at HO HW4 ⊢
          clear hwo hzr w4 wr
          go_wp2_with fail
          go_loopw [7] (fun q wq => ∃ k : Nat, i ≤ k ∧ k ≤ l.length ∧ q = .int .i64 k ∧ Hid (cuts ++ runIx mayF wordF (l.drop k) k (some i) = R) ∧ Hid (Below w.heap.size w wq) ∧ Hid (Below wo.heap.size wo wq)) (fun q _ => l.length - (RowKit.intOf q).toNat)
          case atStart => exact ⟨i, Nat.le_refl _, by omega, rfl, HS, HW4, Lib.hid (Below.refl _ _)⟩
          case round =>
            obtain ⟨k, hik0, hk, rfl, HV, HQ, HQ2⟩ := hrel
            by_cases hlk : k < l.length
            · obtain ⟨ad', he, _, hcy⟩ := reads_rune HK.out rfl hlk
              cases he
              have hcy2 : wr.cell? (ad.add k) = some (.int .i32 l[k]) := (HQ.out.cell (by rw [block_of_add]; exact hba)).trans hcy
              have HDK := Lib.hid (drop_get hlk)
              have HXY : Hid (k = i → l[k] = x) := Lib.hid (fun h => by subst h; exact HX0.out)
              clear hcy
              generalize l[k] = y at *
              cases hmy : mayF y with
              | true =>
                have HC : Hid (∀ W, Calls Tryz.prog 79 #[.int .i64 1, .int .i32 y] W (BoolBelow true W)) := Lib.hid (fun W => by rw [← hmy]; exact refMay1_any y W)
                have HV2 : Hid (cuts ++ runIx mayF wordF (l.drop (k + 1)) (k + 1) (some i) = R) := Lib.hid (by rw [← HV.out, runIx_on _ _ _ _ _ HDK.out hmy])
                clear hmy
                go_wp2_with fail
                refine (HC.out _).mono ?_
                rintro e w3 ⟨rfl, b3⟩
                have HQ3 := Lib.hid (HQ.out.trans (b3.mono HQ.out.size)); have HQ4 := Lib.hid (HQ2.out.trans (b3.mono HQ2.out.size))
                clear b3 hcy2
                go_wp2_with fail
                go_roundw
                case rel => exact ⟨k + 1, by omega, by omega, by go_num, HV2, HQ3, HQ4⟩
                case measure => simp [RowKit.intOf]; omega
              | false =>
                have HC : Hid (∀ W, Calls Tryz.prog 79 #[.int .i64 1, .int .i32 y] W (BoolBelow false W)) := Lib.hid (fun W => by rw [← hmy]; exact refMay1_any y W)
                have HEN := Lib.hid (runIx_end mayF wordF l k i (.inr ⟨y, HDK.out, hmy⟩))
                have HNE : Hid (k = i → False) := Lib.hid (fun h => by have e := HXY.out h; rw [e, HMX.out] at hmy; cases hmy)
                clear hmy
                go_wp2_with fail
                refine (HC.out _).mono ?_
                rintro e w3 ⟨rfl, b3⟩
                have HQ3 := Lib.hid (HQ.out.trans (b3.mono HQ.out.size)); have HQ4 := Lib.hid (HQ2.out.trans (b3.mono HQ2.out.size))
                clear b3 hcy2 HQ HQ2
                have HQ := HQ3; have HQ2 := HQ4
                clear HQ3 HQ4
                have hik : i < k := by
                  rcases Nat.lt_or_ge i (k) with h | h
                  · exact h
                  · exact (HNE.out (by omega)).elim
                have HX : Hid ((cuts ++ [(i, k)]) ++ runIx mayF wordF (l.drop (k)) (k) none = R) := Lib.hid (by rw [← HV.out, HEN.out]; simp)
                have hi := HI1.out; have hz0 := HI2.out; have hz1 := HI3.out; have hz2 := HI4.out
                have hzq := HQ.out.size
                have ho := own_below HO.out (HQ2.out)
                go_wp2_with (at_builtin; refine wpList_append_own _ rfl (.tmp 48) (.tmp 52) 113 rfl w.heap.size 114 i0 (.agg #[.int .i64 0, .int .i64 0]) 2 16 Tryz.underlying113 hi hz0 hz1 hz2 rfl (by decide) _ cuts.length (pairCells cuts) rfl (ho.alloc _) ⟨w3.heap.size, 0, none⟩ 1 1 [.int .i64 (i : Int), .int .i64 ((k : Nat) : Int)] rfl rfl ?dA1 ?dA2 ?dA3 ?dA4 ?dA5 ?_)
                case dA1 => intro j u hu; exact cells_new w3 [.int .i64 (i : Int), .int .i64 ((k : Nat) : Int)] _ j u hu
                case dA2 => intro u hu; exact pair_one (ts := [(i, k)]) hu
                case dA3 => unfold maxLen; omega
                case dA4 => omega
                case dA5 => simp; omega
                intro v' w4 ho4 hg4 _
                have hb4 : Below w.heap.size w w4 := (HQ.out.alloc hzq _).grown hg4 (by simp; omega) (fun r e => (ho.lt r e).1)
                have HO4 : Hid (w4.ownsRow w.heap.size 114 2 v' (cuts ++ [(i, k)]).length (pairCells (cuts ++ [(i, k)]))) := Lib.hid (by rw [pairCells_append, List.length_append]; exact ho4)
                have HB4 := Lib.hid hb4
                clear hi hz0 hz1 hz2 ho ho4 hg4 hb4
                go_wp2_with fail
                go_roundw
                case rel => exact ⟨k, cuts ++ [(i, k)], by omega, by simp; omega, by go_num, HO4, HX, HB4⟩
                case measure => simp [RowKit.intOf]; omega
            · obtain rfl : k = l.length := by omega
              have HEN := Lib.hid (runIx_end mayF wordF l l.length i (.inl rfl))
              have HNE : Hid (l.length = i → False) := Lib.hid (fun h => by omega)
              have hik : i < l.length := by
                rcases Nat.lt_or_ge i (l.length) with h | h
                · exact h
                · exact (HNE.out (by omega)).elim
              have HX : Hid ((cuts ++ [(i, l.length)]) ++ runIx mayF wordF (l.drop (l.length)) (l.length) none = R) := Lib.hid (by rw [← HV.out, HEN.out]; simp)
              have hi := HI1.out; have hz0 := HI2.out; have hz1 := HI3.out; have hz2 := HI4.out
              have hzq := HQ.out.size
              have ho := own_below HO.out (HQ2.out)
              go_wp2_with (at_builtin; refine wpList_append_own _ rfl (.tmp 48) (.tmp 52) 113 rfl w.heap.size 114 i0 (.agg #[.int .i64 0, .int .i64 0]) 2 16 Tryz.underlying113 hi hz0 hz1 hz2 rfl (by decide) _ cuts.length (pairCells cuts) rfl (ho.alloc _) ⟨wr.heap.size, 0, none⟩ 1 1 [.int .i64 (i : Int), .int .i64 (l.length : Int)] rfl rfl ?dB1 ?dB2 ?dB3 ?dB4 ?dB5 ?_)
              case dB1 => intro j u hu; exact cells_new wr [.int .i64 (i : Int), .int .i64 (l.length : Int)] _ j u hu
              case dB2 => intro u hu; exact pair_one (ts := [(i, l.length)]) hu
              case dB3 => unfold maxLen; omega
              case dB4 => omega
              case dB5 => simp; omega
              intro v' w4 ho4 hg4 _
              have hb4 : Below w.heap.size w w4 := (HQ.out.alloc hzq _).grown hg4 (by simp; omega) (fun r e => (ho.lt r e).1)
              have HO4 : Hid (w4.ownsRow w.heap.size 114 2 v' (cuts ++ [(i, l.length)]).length (pairCells (cuts ++ [(i, l.length)]))) := Lib.hid (by rw [pairCells_append, List.length_append]; exact ho4)
              have HB4 := Lib.hid hb4
              clear hi hz0 hz1 hz2 ho ho4 hg4 hb4
              go_wp2_with fail
              go_roundw
              case rel => exact ⟨l.length, cuts ++ [(i, l.length)], by omega, by simp; omega, by go_num, HO4, HX, HB4⟩
              case measure => simp [RowKit.intOf]; omega
    · obtain rfl : i = l.length := by omega
      have HF : Hid (R = cuts) := Lib.hid (by rw [← HE.out, List.drop_length]; simp [runIx])
      go_wp2_with fail
      go_ret
      rw [HF.out]
      exact ⟨_, rfl, HO.out, HW.out⟩


set_option maxRecDepth 100000 in
set_option maxHeartbeats 4000000 in
theorem refRuns_2 (ao : Option Addr) (c : Nat) (l : List Int) (w : World) (hl : l.length ≤ 1099511627776) (hk : Reads w w.heap.size 1 ao l.length (runeCells l)) :
    Calls Tryz.prog 67 #[.int .i64 2, .slice ao l.length c] w (OwnPairs (runIx solidF anyF l 0 none) w) := by
  obtain ⟨R, hR⟩ : ∃ R, runIx solidF anyF l 0 none = R := ⟨_, rfl⟩
  have HR : Hid (([] : List (Nat × Nat)) ++ runIx solidF anyF (l.drop 0) 0 none = R) := Lib.hid hR
  rw [hR]
  obtain ⟨i0, hi, hz0, hz1, hz2⟩ := info_parts infoPair
  have HI1 := Lib.hid hi; have HI2 := Lib.hid hz0; have HI3 := Lib.hid hz1; have HI4 := Lib.hid hz2
  have HK := Lib.hid hk
  clear hR hi hz0 hz1 hz2 hk
  go_enter Tryz.func67, Tryz.ntmps67
  go_wp2_with fail
  go_loopw [5, 6, 7] (fun o i _ wr => ∃ (k : Nat) (cuts : List (Nat × Nat)), k ≤ l.length ∧ cuts.length ≤ k ∧ i = .int .i64 k ∧ Hid (wr.ownsRow w.heap.size 114 2 o cuts.length (pairCells cuts)) ∧ Hid (cuts ++ runIx solidF anyF (l.drop k) k none = R) ∧ Hid (Below w.heap.size w wr)) (fun _ i _ _ => l.length - (RowKit.intOf i).toNat)
  case atStart => exact ⟨0, [], by omega, by simp, rfl, Lib.hid (World.ownsRow_nil _ _ _ _), HR, Lib.hid (Below.refl _ _)⟩
  case round =>
    obtain ⟨i, cuts, hi, hcl, rfl, HO, HE, HW⟩ := hrel
    have hzr := HW.out.size
    obtain ⟨wo, hwo⟩ : ∃ wo : World, wo = wr := ⟨_, rfl⟩
    have HWO := Lib.hid hwo; clear hwo
    by_cases hlt : i < l.length
    · obtain ⟨ad, rfl, hba, hc⟩ := reads_rune HK.out rfl hlt
      have hcw : wr.cell? (ad.add i) = some (.int .i32 l[i]) := (HW.out.cell (by rw [block_of_add]; exact hba)).trans hc
      have HD := Lib.hid (drop_get hlt)
      clear hc
      obtain ⟨x, hx⟩ : ∃ x, l[i] = x := ⟨_, rfl⟩
      have HX0 : Hid (l[i] = x) := Lib.hid hx
      rw [hx] at hcw HD
      clear hx
      cases hm : solidF x with
      | false =>
        have HC : Hid (∀ W, Calls Tryz.prog 79 #[.int .i64 2, .int .i32 x] W (BoolBelow false W)) := Lib.hid (fun W => by rw [← hm]; exact refMay2_any x W)
        have HE2 : Hid (cuts ++ runIx solidF anyF (l.drop (i + 1)) (i + 1) none = R) := Lib.hid (by rw [← HE.out, runIx_skip _ _ _ _ HD.out (by rw [hm]; rfl)])
        clear hm
        go_wp2_with fail
        refine (HC.out _).mono ?_
        rintro e w3 ⟨rfl, b3⟩
        have HO3 := Lib.hid (own_below HO.out b3)
        have HW3 := Lib.hid (HW.out.trans (b3.mono hzr))
        clear b3 hcw
        go_wp2_with fail
        go_roundw
        case rel => exact ⟨i + 1, cuts, by omega, by omega, by go_num, HO3, HE2, HW3⟩
        case measure => simp [RowKit.intOf]; omega
      | true =>
        have HC : Hid (∀ W, Calls Tryz.prog 79 #[.int .i64 2, .int .i32 x] W (BoolBelow true W)) := Lib.hid (fun W => by rw [← hm]; exact refMay2_any x W)
        have HMX := Lib.hid hm
        clear hm
        have HS : Hid (cuts ++ runIx solidF anyF (l.drop i) i (some i) = R) := Lib.hid (by rw [← HE.out, ← runIx_go _ _ _ _ HD.out (by rw [HMX.out]; rfl)])
        go_wp2_with fail
        refine (HC.out _).mono ?_
        rintro e w3 ⟨rfl, b3⟩
        have HO3 := Lib.hid (own_below HO.out b3)
        have HW4 := Lib.hid (HW.out.trans (b3.mono hzr))
        clear b3 hcw HO HW HWO wo
        have HO := HO3
        clear HO3
        obtain ⟨wo, hwo⟩ : ∃ wo : World, w3 = wo := ⟨_, rfl⟩
        rw [hwo] at HO HW4 ⊢
        clear hwo hzr w3 wr
        go_wp2_with fail
        go_loopw [7] (fun q wq => ∃ k : Nat, i ≤ k ∧ k ≤ l.length ∧ q = .int .i64 k ∧ Hid (cuts ++ runIx solidF anyF (l.drop k) k (some i) = R) ∧ Hid (Below w.heap.size w wq) ∧ Hid (Below wo.heap.size wo wq)) (fun q _ => l.length - (RowKit.intOf q).toNat)
        case atStart => exact ⟨i, Nat.le_refl _, by omega, rfl, HS, HW4, Lib.hid (Below.refl _ _)⟩
        case round =>
          obtain ⟨k, hik0, hk, rfl, HV, HQ, HQ2⟩ := hrel
          by_cases hlk : k < l.length
          · obtain ⟨ad', he, _, hcy⟩ := reads_rune HK.out rfl hlk
            cases he
            have hcy2 : wr.cell? (ad.add k) = some (.int .i32 l[k]) := (HQ.out.cell (by rw [block_of_add]; exact hba)).trans hcy
            have HDK := Lib.hid (drop_get hlk)
            have HXY : Hid (k = i → l[k] = x) := Lib.hid (fun h => by subst h; exact HX0.out)
            clear hcy
            generalize l[k] = y at *
            cases hmy : solidF y with
            | true =>
              have HC : Hid (∀ W, Calls Tryz.prog 79 #[.int .i64 2, .int .i32 y] W (BoolBelow true W)) := Lib.hid (fun W => by rw [← hmy]; exact refMay2_any y W)
              have HV2 : Hid (cuts ++ runIx solidF anyF (l.drop (k + 1)) (k + 1) (some i) = R) := Lib.hid (by rw [← HV.out, runIx_on _ _ _ _ _ HDK.out hmy])
              clear hmy
              go_wp2_with fail
              refine (HC.out _).mono ?_
              rintro e w3 ⟨rfl, b3⟩
              have HQ3 := Lib.hid (HQ.out.trans (b3.mono HQ.out.size)); have HQ4 := Lib.hid (HQ2.out.trans (b3.mono HQ2.out.size))
              clear b3 hcy2
              go_wp2_with fail
              go_roundw
              case rel => exact ⟨k + 1, by omega, by omega, by go_num, HV2, HQ3, HQ4⟩
              case measure => simp [RowKit.intOf]; omega
            | false =>
              have HC : Hid (∀ W, Calls Tryz.prog 79 #[.int .i64 2, .int .i32 y] W (BoolBelow false W)) := Lib.hid (fun W => by rw [← hmy]; exact refMay2_any y W)
              have HEN := Lib.hid (runIx_end solidF anyF l k i (.inr ⟨y, HDK.out, hmy⟩))
              have HNE : Hid (k = i → False) := Lib.hid (fun h => by have e := HXY.out h; rw [e, HMX.out] at hmy; cases hmy)
              clear hmy
              go_wp2_with fail
              refine (HC.out _).mono ?_
              rintro e w3 ⟨rfl, b3⟩
              have HQ3 := Lib.hid (HQ.out.trans (b3.mono HQ.out.size)); have HQ4 := Lib.hid (HQ2.out.trans (b3.mono HQ2.out.size))
              clear b3 hcy2 HQ HQ2
              have HQ := HQ3; have HQ2 := HQ4
              clear HQ3 HQ4
              have hik : i < k := by
                rcases Nat.lt_or_ge i (k) with h | h
                · exact h
                · exact (HNE.out (by omega)).elim
              have HX : Hid ((cuts ++ [(i, k)]) ++ runIx solidF anyF (l.drop (k)) (k) none = R) := Lib.hid (by rw [← HV.out, HEN.out]; simp)
              have hi := HI1.out; have hz0 := HI2.out; have hz1 := HI3.out; have hz2 := HI4.out
              have hzq := HQ.out.size
              have ho := own_below HO.out (HQ2.out)
              go_wp2_with (at_builtin; refine wpList_append_own _ rfl (.tmp 48) (.tmp 52) 113 rfl w.heap.size 114 i0 (.agg #[.int .i64 0, .int .i64 0]) 2 16 Tryz.underlying113 hi hz0 hz1 hz2 rfl (by decide) _ cuts.length (pairCells cuts) rfl (ho.alloc _) ⟨w3.heap.size, 0, none⟩ 1 1 [.int .i64 (i : Int), .int .i64 ((k : Nat) : Int)] rfl rfl ?dA1 ?dA2 ?dA3 ?dA4 ?dA5 ?_)
              case dA1 => intro j u hu; exact cells_new w3 [.int .i64 (i : Int), .int .i64 ((k : Nat) : Int)] _ j u hu
              case dA2 => intro u hu; exact pair_one (ts := [(i, k)]) hu
              case dA3 => unfold maxLen; omega
              case dA4 => omega
              case dA5 => simp; omega
              intro v' w4 ho4 hg4 _
              have hb4 : Below w.heap.size w w4 := (HQ.out.alloc hzq _).grown hg4 (by simp; omega) (fun r e => (ho.lt r e).1)
              have HO4 : Hid (w4.ownsRow w.heap.size 114 2 v' (cuts ++ [(i, k)]).length (pairCells (cuts ++ [(i, k)]))) := Lib.hid (by rw [pairCells_append, List.length_append]; exact ho4)
              have HB4 := Lib.hid hb4
              clear hi hz0 hz1 hz2 ho ho4 hg4 hb4
              go_wp2_with fail
              go_roundw
              case rel => exact ⟨k, cuts ++ [(i, k)], by omega, by simp; omega, by go_num, HO4, HX, HB4⟩
              case measure => simp [RowKit.intOf]; omega
          · obtain rfl : k = l.length := by omega
            have HEN := Lib.hid (runIx_end solidF anyF l l.length i (.inl rfl))
            have HNE : Hid (l.length = i → False) := Lib.hid (fun h => by omega)
            have hik : i < l.length := by
              rcases Nat.lt_or_ge i (l.length) with h | h
              · exact h
              · exact (HNE.out (by omega)).elim
            have HX : Hid ((cuts ++ [(i, l.length)]) ++ runIx solidF anyF (l.drop (l.length)) (l.length) none = R) := Lib.hid (by rw [← HV.out, HEN.out]; simp)
            have hi := HI1.out; have hz0 := HI2.out; have hz1 := HI3.out; have hz2 := HI4.out
            have hzq := HQ.out.size
            have ho := own_below HO.out (HQ2.out)
            go_wp2_with (at_builtin; refine wpList_append_own _ rfl (.tmp 48) (.tmp 52) 113 rfl w.heap.size 114 i0 (.agg #[.int .i64 0, .int .i64 0]) 2 16 Tryz.underlying113 hi hz0 hz1 hz2 rfl (by decide) _ cuts.length (pairCells cuts) rfl (ho.alloc _) ⟨wr.heap.size, 0, none⟩ 1 1 [.int .i64 (i : Int), .int .i64 (l.length : Int)] rfl rfl ?dB1 ?dB2 ?dB3 ?dB4 ?dB5 ?_)
            case dB1 => intro j u hu; exact cells_new wr [.int .i64 (i : Int), .int .i64 (l.length : Int)] _ j u hu
            case dB2 => intro u hu; exact pair_one (ts := [(i, l.length)]) hu
            case dB3 => unfold maxLen; omega
            case dB4 => omega
            case dB5 => simp; omega
            intro v' w4 ho4 hg4 _
            have hb4 : Below w.heap.size w w4 := (HQ.out.alloc hzq _).grown hg4 (by simp; omega) (fun r e => (ho.lt r e).1)
            have HO4 : Hid (w4.ownsRow w.heap.size 114 2 v' (cuts ++ [(i, l.length)]).length (pairCells (cuts ++ [(i, l.length)]))) := Lib.hid (by rw [pairCells_append, List.length_append]; exact ho4)
            have HB4 := Lib.hid hb4
            clear hi hz0 hz1 hz2 ho ho4 hg4 hb4
            go_wp2_with fail
            go_roundw
            case rel => exact ⟨l.length, cuts ++ [(i, l.length)], by omega, by simp; omega, by go_num, HO4, HX, HB4⟩
            case measure => simp [RowKit.intOf]; omega
    · obtain rfl : i = l.length := by omega
      have HF : Hid (R = cuts) := Lib.hid (by rw [← HE.out, List.drop_length]; simp [runIx])
      go_wp2_with fail
      go_ret
      rw [HF.out]
      exact ⟨_, rfl, HO.out, HW.out⟩

end Go.Proofs.YtinmiekbhoemjaaGreatDoor.Ana
