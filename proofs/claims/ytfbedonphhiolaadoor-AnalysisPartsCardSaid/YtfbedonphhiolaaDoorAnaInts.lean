/- Contracts: rows of numbers compared, lent and kept. -/
import Derived.Test.YtfbedonphhiolaaDoorAnaCheck
import Derived.Deep.QuietTactic
import Derived.BigQuiet
set_option linter.unusedVariables false
namespace Go.Proofs.YtfbedonphhiolaaDoor.Ana
open Go.RowKit Go.Lib AnaP Words Tree Kit Owned

set_option maxRecDepth 100000 in
set_option maxHeartbeats 1000000 in
theorem ints_any (ao bo : Option Addr) (c d : Nat) (xs ys : List Int) (w : World) (ha : Reads w w.heap.size 1 ao xs.length (intCells xs)) (hb : Reads w w.heap.size 1 bo ys.length (intCells ys)) (hla : xs.length ≤ 9223372036854775807) (hlb : ys.length ≤ 9223372036854775807) (r : Bool) (hr : r = true ↔ xs = ys) :
    Calls Tryd.prog 31 #[.slice ao xs.length c, .slice bo ys.length d] w (BoolB r w) := by
  have HA := Lib.hid ha; have HB := Lib.hid hb; have HR := Lib.hid hr
  clear ha hb hr
  by_cases hl : xs.length = ys.length
  · have HL := Lib.hid hl
    have hbne : ((xs.length : Int) != (ys.length : Int)) = false := by rw [hl]; simp
    clear hl
    go_enter Tryd.func31, Tryd.ntmps31
    go_wp2_with fail
    go_loopw [5] (fun i wr => ∃ (k m : Nat), k ≤ xs.length ∧ i = .int .i64 k ∧ Hid (xs.take k = ys.take k) ∧ wr = w.drewN m) (fun i _ => xs.length - (RowKit.intOf i).toNat)
    case atStart => exact ⟨0, 0, by omega, rfl, Lib.hid (by simp), rfl⟩
    case round =>
      obtain ⟨k, m, hk, rfl, HE, rfl⟩ := hrel
      by_cases hlt : k < xs.length
      · have hlt2 : k < ys.length := by have := HL.out; omega
        obtain ⟨ad, rfl, hba, a0⟩ := reads_int HA.out rfl hlt
        obtain ⟨bd, rfl, hbb, b0⟩ := reads_int HB.out rfl hlt2
        have HST : Hid (xs.take (k + 1) = xs.take k ++ [xs[k]] ∧ ys.take (k + 1) = ys.take k ++ [ys[k]]) := Lib.hid ⟨List.take_succ_eq_append_getElem hlt, List.take_succ_eq_append_getElem hlt2⟩
        have HNE : Hid (¬ xs[k] = ys[k] → r = false) := Lib.hid (fun h => by
          cases hr0 : r with
          | false => rfl
          | true =>
            have e := HR.out.1 hr0
            subst e
            exact absurd rfl h)
        have hx1 : (k : Int) < (xs.length : Int) := by omega
        have hx2 : (k : Int) < (ys.length : Int) := by omega
        by_cases he : xs[k] = ys[k]
        · have HQ := Lib.hid he
          rw [← he] at b0
          clear he HNE
          generalize xs[k] = x at *
          have hb : (x != x) = false := by simp
          go_wp2_with fail
          go_quiet (fail)
          go_wp2_with fail
          go_roundw
          case rel => exact ⟨k + 1, _, by omega, by go_num, Lib.hid (by rw [HST.out.1, HST.out.2, HE.out, ← HQ.out]), by first | rfl | (rw [World.drewN_drewN])⟩
          case measure => simp [RowKit.intOf]; omega
        · have HRF := Lib.hid (HNE.out he)
          have hb : (xs[k] != ys[k]) = true := by rw [bne_iff_ne]; exact he
          clear he HNE HST
          generalize xs[k] = x at *
          generalize ys[k] = y at *
          go_wp2_with fail
          go_quiet (fail)
          go_wp2_with fail
          go_ret
          rw [HRF.out]
          exact ⟨rfl, ⟨rfl, rfl, rfl, Nat.le_refl _, fun _ _ => rfl⟩⟩
      · obtain rfl : k = xs.length := by omega
        have HRT : Hid (r = true) := Lib.hid (by
          rw [HR.out]
          have := HE.out
          rw [List.take_of_length_le (Nat.le_refl _), HL.out, List.take_of_length_le (Nat.le_refl _)] at this
          exact this)
        go_wp2_with fail
        go_ret
        rw [HRT.out]
        exact ⟨rfl, ⟨rfl, rfl, rfl, Nat.le_refl _, fun _ _ => rfl⟩⟩
  · have hbne : ((xs.length : Int) != (ys.length : Int)) = true := by rw [bne_iff_ne]; omega
    have HRF : Hid (r = false) := Lib.hid (by
      cases hr0 : r with
      | false => rfl
      | true => exact absurd (by rw [HR.out.1 hr0]) hl)
    clear hl
    go_enter Tryd.func31, Tryd.ntmps31
    go_wp2_with fail
    go_ret
    rw [HRF.out]
    exact ⟨rfl, Below.refl _ _⟩

theorem int_one {u : Value} {ts : List Int} (h : u ∈ intCells ts) : u.oneCell' = true := by
  unfold intCells at h
  rw [List.mem_map] at h
  obtain ⟨x, _, rfl⟩ := h
  rfl
/-- A row of numbers in memory of the call's own, with the mark behind it. -/
def LentI (w : World) (B : Nat) (v : Value) (l : List Int) : Prop :=
  ∃ g cap, v = .slice (some ⟨g, 0, none⟩) l.length cap ∧ l.length < cap ∧ cap ≤ maxLen ∧ B ≤ g ∧ Reads w w.heap.size 1 (some ⟨g, 0, none⟩) (l.length + 1) (intCells (l ++ [-7171]))
theorem LentI.below {w w' : World} {B : Nat} {v : Value} {l : List Int} (h : LentI w B v l) (hb : Below w.heap.size w w') : LentI w' B v l := by
  obtain ⟨g, cap, rfl, h1, h2, h3, h4⟩ := h
  exact ⟨g, cap, rfl, h1, h2, h3, (h4.below hb).more hb.size⟩
theorem LentI.reads {w : World} {B : Nat} {v : Value} {l : List Int} (h : LentI w B v l) : ∃ g cap, v = .slice (some ⟨g, 0, none⟩) l.length cap ∧ l.length < cap ∧ cap ≤ maxLen ∧ Reads w w.heap.size 1 (some ⟨g, 0, none⟩) l.length (intCells l) ∧ g < w.heap.size ∧ w.cell? ⟨g, l.length, none⟩ = some (.int .i64 (-7171)) := by
  obtain ⟨g, cap, rfl, h1, h2, h3, h4⟩ := h
  obtain ⟨ad, ha, hb, hc⟩ := h4.2 (by omega)
  obtain rfl := Option.some.inj ha
  refine ⟨g, cap, rfl, h1, h2, ⟨by simp [intCells], fun hn => ⟨_, rfl, hb, fun j u hu => hc j u ?_⟩⟩, hb, ?_⟩
  · rw [show intCells (l ++ [-7171]) = intCells l ++ intCells [-7171] by simp [intCells], List.getElem?_append_left (List.getElem?_eq_some_iff.1 hu).1]; exact hu
  · have := hc l.length (.int .i64 (-7171)) (by rw [show intCells (l ++ [-7171]) = intCells l ++ intCells [-7171] by simp [intCells], List.getElem?_append_right (by simp [intCells])]; simp [intCells])
    have e : (⟨g, 0, none⟩ : Addr).add l.length = ⟨g, l.length, none⟩ := by unfold Addr.add; split <;> simp_all
    rwa [e] at this
def LentIRet (l : List Int) (w : World) (e : Ending) (w' : World) : Prop := ∃ v, e = .returned v ∧ LentI w' w.heap.size v l ∧ Below w.heap.size w w'
theorem infoI : (Tryd.prog.info? 3).map (fun i => (i.zero, i.size, i.bytes)) = some (some (.int .i64 0), 1, 8) := by kernel_rfl

set_option maxRecDepth 100000 in
set_option maxHeartbeats 1000000 in
theorem lentInts_any (ao : Option Addr) (c : Nat) (l : List Int) (w : World) (hk : Reads w w.heap.size 1 ao l.length (intCells l)) (hl : l.length * 8 ≤ 140737488351232) :
    Calls Tryd.prog 18 #[.slice ao l.length c] w (LentIRet l w) := by
  obtain ⟨i0, hi, hz0, hz1, hz2⟩ := info_parts infoI
  go_enter Tryd.func18, Tryd.ntmps18
  go_wp2_with (at_builtin; refine wpList_append_any _ rfl (.tmp 4) (.tmp 5) 33 rfl w.heap.size 3 i0 (.int .i64 0) 1 8 Tryd.underlying33 hi hz0 hz1 hz2 rfl (by decide) (.slice none 0 0) 0 [] rfl (World.ownsRow_nil _ _ _ _) w.heap.size ao l.length c (intCells l) rfl hk ?c2 ?c3 ?c4 ?c5 ?_)
  case c2 => intro u hu; exact int_one hu
  case c3 => unfold maxLen; omega
  case c4 => omega
  case c5 => exact Nat.le_refl _
  intro v1 w1 ho1 hg1 _
  have hb1 : Below w.heap.size w w1 := (Below.refl _ w).grown hg1 (Nat.le_refl _) (fun r e => by cases e)
  replace ho1 : w1.ownsRow w.heap.size 3 1 v1 l.length (intCells l) := by simpa using ho1
  have HB1 := Lib.hid hb1
  have hsz1 := hb1.size
  clear hg1 hb1
  go_wp2_with (at_builtin; refine wpList_append_own _ rfl (.tmp 7) (.tmp 8) 33 rfl w.heap.size 3 i0 (.int .i64 0) 1 8 Tryd.underlying33 hi hz0 hz1 hz2 rfl (by decide) _ l.length (intCells l) rfl (ho1.alloc _) ⟨w1.heap.size, 0, none⟩ 1 1 [.int .i64 (-7171)] rfl rfl ?d1 ?d2 ?d3 ?d4 ?d5 ?_)
  case d1 => intro j u hu; exact cells_new w1 [.int .i64 (-7171)] _ j u hu
  case d2 => intro u hu; exact int_one (ts := [-7171]) hu
  case d3 => unfold maxLen; omega
  case d4 => omega
  case d5 => simp; omega
  intro v2 w2 ho2 hg2 _
  have hb2 : Below w.heap.size w w2 := (HB1.out.alloc HB1.out.size _).grown hg2 (by simp; omega) (fun r e => (ho1.lt r e).1)
  have HB2 := Lib.hid hb2
  have e1 : intCells l ++ [.int .i64 (-7171)] = intCells (l ++ [-7171]) := by simp [intCells]
  rw [e1] at ho2
  rcases ho2.2 with ⟨_, h0⟩ | ⟨g, cap, cur, rfl, hB, hgg, hn, hm, hcs, ht⟩
  · omega
  · have HOW := Lib.hid (Reads.of_own ho2)
    have hm' := hm
    unfold maxLen at hm'
    clear hg2 hb2 e1 ho1 hk hgg hcs ht ho2
    go_wp2_with fail
    go_ret
    exact ⟨_, rfl, ⟨g, cap, rfl, hn, hm, hB, HOW.out⟩, HB2.out⟩
set_option maxRecDepth 100000 in
set_option maxHeartbeats 1000000 in
theorem keptInts_any (v : Value) (B : Nat) (bo : Option Addr) (d : Nat) (l : List Int) (w : World) (hv : LentI w B v l) (hb : Reads w w.heap.size 1 bo l.length (intCells l)) (hl : l.length * 8 ≤ 140737488351232) :
    Calls Tryd.prog 23 #[v, .slice bo l.length d] w (BoolB true w) := by
  obtain ⟨g, cap, rfl, h1, h2, h3, h4, h5⟩ := hv.reads
  have HC := Lib.hid (ints_any _ _ cap d l l w h3 hb (by omega) (by omega) true (by simp))
  have H5 := Lib.hid h5
  have h2' := h2
  unfold maxLen at h2'
  clear hv h3 hb h5
  go_enter Tryd.func23, Tryd.ntmps23
  go_wp2_with fail
  refine HC.out.mono ?_
  rintro e w1 ⟨rfl, b1⟩
  have hcell : w1.cell? ⟨g, l.length, none⟩ = some (.int .i64 (-7171)) := (b1.cell (p := ⟨g, l.length, none⟩) h4).trans H5.out
  have B1 := Lib.hid b1; clear b1
  go_wp2_with fail
  go_ret
  exact ⟨rfl, B1.out⟩
end Go.Proofs.YtfbedonphhiolaaDoor.Ana
