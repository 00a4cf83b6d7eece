/- Contract: the document's Check of a chain. -/
import Derived.Test.YtfckomjbgopmaaaGreatDoorAnaCheck
import Derived.Deep.QuietTactic
import Derived.BigQuiet
set_option linter.unusedVariables false
namespace Go.Proofs.YtfckomjbgopmaaaGreatDoor.Ana
open Go.RowKit Go.Lib AnaP Words Tree Kit Owned

/-- Is the entry unlike those from k on, ahead of it, and are all behind it as asked? -/
def unlikeFrom (l : List Int) (i k : Nat) : Bool := ((List.range i).drop k).all (fun k => l.getD k 0 != l.getD i 0) && goodFrom l (i + 1)
theorem unlike_step {l : List Int} {i k : Nat} (h : k < i) : unlikeFrom l i k = (l.getD k 0 != l.getD i 0 && unlikeFrom l i (k + 1)) := by
  unfold unlikeFrom
  rw [List.drop_eq_getElem_cons (by simpa using h), List.all_cons, List.getElem_range, Bool.and_assoc]
theorem unlike_end (l : List Int) (i : Nat) : unlikeFrom l i i = goodFrom l (i + 1) := by
  unfold unlikeFrom
  rw [List.drop_eq_nil_of_le (by simp)]; rfl
theorem good_zero {l : List Int} {a : Int} (h : 0 < l.length) (ha : l.getD 0 0 = a) : goodFrom l 0 = (decide (1 ≤ a ∧ a ≤ 4) && goodFrom l 1) := by
  rw [goodFrom_step l 0 h]
  unfold goodAt
  rw [if_pos rfl, ha]; simp
theorem good_pos {l : List Int} {i : Nat} (h : i < l.length) (h0 : 0 < i) : goodFrom l i = (filterB (l.getD i 0) && unlikeFrom l i 0) := by
  rw [goodFrom_step l i h]
  unfold goodAt unlikeFrom
  rw [if_neg (by omega), List.drop_zero, Bool.and_assoc]
theorem refCheck_nil (ao : Option Addr) (c : Nat) (w : World) : Calls Tryz.prog 64 #[.slice ao 0 c] w (IntB 60 w) := by
  go_enter Tryz.func64, Tryz.ntmps64
  go_wp2_with fail
  go_ret
  exact ⟨rfl, Below.refl _ _⟩
set_option maxRecDepth 100000 in
set_option maxHeartbeats 1000000 in
theorem refCheck_long (ao : Option Addr) (n c : Nat) (w : World) (h1 : 8 < n) (hm : n ≤ 9223372036854775807) : Calls Tryz.prog 64 #[.slice ao n c] w (IntB 60 w) := by
  have a1 : ((n : Int) == 0) = false := by rw [beq_eq_false_iff_ne]; omega
  have a2 : decide ((8 : Int) < n) = true := by rw [decide_eq_true_iff]; omega
  go_enter Tryz.func64, Tryz.ntmps64
  go_wp2_with fail
  go_ret
  exact ⟨rfl, Below.refl _ _⟩
set_option maxRecDepth 100000 in
set_option maxHeartbeats 4000000 in
theorem refCheck_in (ad : Addr) (c : Nat) (l : List Int) (w : World) (h1 : 1 ≤ l.length) (h8 : l.length ≤ 8) (hk : Reads w w.heap.size 1 (some ad) l.length (intCells l)) :
    Calls Tryz.prog 64 #[.slice (some ad) l.length c] w (IntB (errOf (goodFrom l 0)) w) := by
  obtain ⟨r, hR⟩ : ∃ r, goodFrom l 0 = r := ⟨_, rfl⟩
  have HR := Lib.hid hR
  have a1 : ((l.length : Int) == 0) = false := by rw [beq_eq_false_iff_ne]; omega
  have a2 : decide ((8 : Int) < l.length) = false := by rw [decide_eq_false_iff_not]; omega
  have HK := Lib.hid hk
  rw [hR]
  clear hk hR
  go_enter Tryz.func64, Tryz.ntmps64
  go_wp2_with fail
  go_loopw [3, 4] (fun i _ wr => ∃ k : Nat, k ≤ l.length ∧ i = .int .i64 k ∧ Hid (goodFrom l k = r) ∧ Hid (Below w.heap.size w wr)) (fun i _ _ => l.length - (RowKit.intOf i).toNat)
  case atStart => exact ⟨0, by omega, rfl, HR, Lib.hid (Below.refl _ _)⟩
  case round =>
    obtain ⟨i, hi, rfl, HE, HW⟩ := hrel
    obtain ⟨wo, hwo⟩ : ∃ wo : World, wo = wr := ⟨_, rfl⟩
    by_cases hlt : i < l.length
    · obtain ⟨ad', he, hba, hc⟩ := reads_int HK.out rfl hlt
      cases he
      have hcw : wr.cell? (ad.add i) = some (.int .i64 l[i]) := (HW.out.cell (by rw [block_of_add]; exact hba)).trans hc
      have HX : Hid (l.getD i 0 = l[i]) := Lib.hid (by simp [hlt])
      clear hc
      generalize l[i] = x at *
      by_cases hi0 : i = 0
      · subst hi0
        have hcx : wr.cell? ad = some (.int .i64 x) := hcw
        have HG := Lib.hid (good_zero hlt HX.out)
        clear hcw
        by_cases hbad : x < 1 ∨ 4 < x
        · have HF : Hid (r = false) := Lib.hid (by rw [← HE.out, HG.out, decide_eq_false (by omega)]; rfl)
          rcases hbad with hb | hb
          · have a3 : decide (x < 1) = true := by rw [decide_eq_true_iff]; omega
            go_wp2_with fail
            go_ret
            rw [HF.out]
            exact ⟨rfl, HW.out⟩
          · have a3 : decide (x < 1) = false := by rw [decide_eq_false_iff_not]; omega
            have a4 : decide (4 < x) = true := by rw [decide_eq_true_iff]; omega
            go_wp2_with fail
            go_ret
            rw [HF.out]
            exact ⟨rfl, HW.out⟩
        · have a3 : decide (x < 1) = false := by rw [decide_eq_false_iff_not]; omega
          have a4 : decide (4 < x) = false := by rw [decide_eq_false_iff_not]; omega
          have HF : Hid (goodFrom l 1 = r) := Lib.hid (by rw [← HE.out, HG.out, decide_eq_true (by omega)]; rfl)
          clear hbad
          go_wp2_with fail
          go_loopw [4] (fun q wq => q = .int .i64 0 ∧ wq = wr) (fun _ _ => 0)
          case atStart => exact ⟨rfl, rfl⟩
          case round =>
            obtain ⟨rfl, rfl⟩ := hrel
            go_wp2_with fail
            go_roundw
            case rel => exact ⟨1, by omega, by go_num, HF, HW⟩
            case measure => simp [RowKit.intOf]; omega
      · have hi1 : 0 < i := by omega
        have a0 : ((i : Int) == 0) = false := by rw [beq_eq_false_iff_ne]; omega
        have a01 : decide ((0 : Int) < i) = true := by rw [decide_eq_true_iff]; omega
        have HG := Lib.hid (good_pos hlt hi1)
        cases hf : filterB x with
        | false =>
          have HC : Hid (∀ W, Calls Tryz.prog 85 #[.int .i64 x] W (PureB false W)) := Lib.hid (fun W => by rw [← hf]; exact filter_any x W)
          have HF : Hid (r = false) := Lib.hid (by rw [← HE.out, HG.out, HX.out, hf]; rfl)
          clear hf
          go_wp2_with fail
          refine (HC.out _).mono ?_
          rintro e w2 ⟨rfl, rfl⟩
          go_wp2_with fail
          go_ret
          rw [HF.out]
          exact ⟨rfl, HW.out⟩
        | true =>
          have HC : Hid (∀ W, Calls Tryz.prog 85 #[.int .i64 x] W (PureB true W)) := Lib.hid (fun W => by rw [← hf]; exact filter_any x W)
          have HF : Hid (unlikeFrom l i 0 = r) := Lib.hid (by rw [← HE.out, HG.out, HX.out, hf]; rfl)
          clear hf
          go_wp2_with fail
          refine (HC.out _).mono ?_
          rintro e w2 ⟨rfl, rfl⟩
          go_wp2_with fail
          clear hcw
          go_loopw [4] (fun q wq => ∃ k : Nat, k ≤ i ∧ q = .int .i64 k ∧ Hid (unlikeFrom l i k = r) ∧ Hid (Below w.heap.size w wq)) (fun q _ => i - (RowKit.intOf q).toNat)
          case atStart => exact ⟨0, by omega, rfl, HF, HW⟩
          case round =>
            obtain ⟨k, hk, rfl, HU, HB⟩ := hrel
            by_cases hlk : k < i
            · obtain ⟨ad', he, _, hcy⟩ := reads_int HK.out rfl (show k < l.length by omega)
              cases he
              obtain ⟨ad', he, _, hcx⟩ := reads_int HK.out rfl hlt
              cases he
              have hcy2 : wr.cell? (ad.add k) = some (.int .i64 l[k]) := (HB.out.cell (by rw [block_of_add]; exact hba)).trans hcy
              have hcx2 : wr.cell? (ad.add i) = some (.int .i64 x) := (HB.out.cell (by rw [block_of_add]; exact hba)).trans (by rw [hcx]; have := HX.out; simp [hlt] at this; rw [this])
              have HS := Lib.hid (unlike_step (l := l) hlk)
              have HY : Hid (l.getD k 0 = l[k]) := Lib.hid (by simp [show k < l.length by omega])
              have hx0 : (k : Int) < (l.length : Int) := by omega
              have hx1 : (i : Int) < (l.length : Int) := by omega
              clear hcy hcx
              generalize l[k] = y at *
              by_cases he : y = x
              · subst he
                have b1 : (y == y) = true := by simp
                have HF2 : Hid (r = false) := Lib.hid (by rw [← HU.out, HS.out, HX.out, HY.out]; simp)
                go_wp2_with fail
                go_quiet (fail)
                go_wp2_with fail
                go_ret
                rw [HF2.out]
                exact ⟨rfl, below_drewN HB.out _⟩
              · have b1 : (y == x) = false := by rw [beq_eq_false_iff_ne]; exact he
                have HF2 : Hid (unlikeFrom l i (k + 1) = r) := Lib.hid (by rw [← HU.out, HS.out, HX.out, HY.out, bne_iff_ne.2 he]; rfl)
                clear he
                go_wp2_with fail
                go_quiet (fail)
                go_wp2_with fail
                go_roundw
                case rel => exact ⟨k + 1, by omega, by go_num, HF2, Lib.hid (below_drewN HB.out _)⟩
                case measure => simp [RowKit.intOf]; omega
            · obtain rfl : k = i := by omega
              have HF2 : Hid (goodFrom l (k + 1) = r) := Lib.hid (by rw [← HU.out, unlike_end])
              go_wp2_with fail
              go_roundw
              case rel => exact ⟨k + 1, by omega, by go_num, HF2, HB⟩
              case measure => simp [RowKit.intOf]; omega
    · obtain rfl : i = l.length := by omega
      have HF : Hid (r = true) := Lib.hid (by rw [← HE.out, goodFrom_end _ _ (Nat.le_refl _)])
      go_wp2_with fail
      go_ret
      rw [HF.out]
      exact ⟨rfl, HW.out⟩
/-- THE DOCUMENT'S CHECK. -/
theorem refCheck_any (ao : Option Addr) (n c : Nat) (l : List Int) (w : World) (hn : n = l.length) (hk : Reads w w.heap.size 1 ao n (intCells l)) (hm : n ≤ maxLen) :
    Calls Tryz.prog 64 #[.slice ao n c] w (IntB (errOf (checkB l)) w) := by
  subst hn
  unfold maxLen at hm
  rcases (show l.length = 0 ∨ 8 < l.length ∨ (1 ≤ l.length ∧ l.length ≤ 8) by omega) with h1 | h1 | ⟨h1, h2⟩
  · rw [check_bad l (by omega), h1]; exact refCheck_nil ao c w
  · rw [check_bad l (by omega)]; exact refCheck_long ao _ c w h1 (by omega)
  · obtain ⟨ad, rfl, _, _⟩ := hk.2 (by omega)
    rw [← good_check l (by rintro rfl; simp at h1) h2]
    exact refCheck_in ad c l w h1 h2 hk
end Go.Proofs.YtfckomjbgopmaaaGreatDoor.Ana
