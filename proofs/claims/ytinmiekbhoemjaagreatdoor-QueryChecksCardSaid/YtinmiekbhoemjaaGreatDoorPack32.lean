/- Contracts: rows of numbers compared, lent and kept. Contract: 'Runes' of the document's answer: two new slices, the places and the runes. -/
import Derived.Test.YtinmiekbhoemjaaGreatDoorPack11
import Derived.Test.YtinmiekbhoemjaaGreatDoorPack17
import Derived.Deep.QuietTactic
import Derived.BigQuiet
import Derived.Test.YtinmiekbhoemjaaGreatDoorPack23
import Derived.Test.YtinmiekbhoemjaaGreatDoorPack7
section
set_option linter.unusedVariables false
namespace Go.Proofs.YtinmiekbhoemjaaGreatDoor.Ana
open Go.RowKit Go.Lib AnaP Words Tree Kit Owned

set_option maxRecDepth 100000 in
set_option maxHeartbeats 1000000 in
theorem ints_any (ao bo : Option Addr) (c d : Nat) (xs ys : List Int) (w : World) (ha : Reads w w.heap.size 1 ao xs.length (intCells xs)) (hb : Reads w w.heap.size 1 bo ys.length (intCells ys)) (hla : xs.length ≤ 9223372036854775807) (hlb : ys.length ≤ 9223372036854775807) (r : Bool) (hr : r = true ↔ xs = ys) :
    Calls Tryz.prog 45 #[.slice ao xs.length c, .slice bo ys.length d] w (BoolB r w) := by
  have HA := Lib.hid ha; have HB := Lib.hid hb; have HR := Lib.hid hr
  clear ha hb hr
  by_cases hl : xs.length = ys.length
  · have HL := Lib.hid hl
    have hbne : ((xs.length : Int) != (ys.length : Int)) = false := by rw [hl]; simp
    clear hl
    go_enter Tryz.func45, Tryz.ntmps45
    go_wp2_with fail
    go_loopw [5] (fun i wr => ∃ (k m : Nat), k ≤ xs.length ∧ i = .int .i64 k ∧ Hid (xs.take k = ys.take k) ∧ wr = w.drewN m) (fun i _ => xs.length - (RowKit.intOf i).toNat)
    case atStart => exact ⟨0, 0, by omega, rfl, Lib.hid (by simp), rfl⟩
    case round =>
      obtain ⟨k, m, hk, rfl, HE, rfl⟩ := hrel
      by_cases hlt : k < xs.length
      · have hlt2 : k < ys.length := by have := HL.out; omega
        obtain ⟨ad, rfl, hba, a0⟩ := reads_int HA.out rfl hlt
        obtain ⟨bd, rfl, hbb, b0⟩ := reads_int HB.out rfl hlt2
        have HST : Hid (xs.take (k + 1) = xs.take k ++ [xs[k]] ∧ ys.take (k + 1) = ys.take k ++ [ys[k]]) := Lib.hid ⟨List.take_succ_eq_append_getElem hlt, List.take_succ_eq_append_getElem hlt2⟩
        have HNE : Hid (¬ xs[k] = ys[k] → r = false) := Lib.hid (fun h => by
          cases hr0 : r with
          | false => rfl
          | true =>
            have e := HR.out.1 hr0
            subst e
            exact absurd rfl h)
        have hx1 : (k : Int) < (xs.length : Int) := by omega
        have hx2 : (k : Int) < (ys.length : Int) := by omega
        by_cases he : xs[k] = ys[k]
        · have HQ := Lib.hid he
          rw [← he] at b0
          clear he HNE
          generalize xs[k] = x at *
          have hb : (x != x) = false := by simp
          go_wp2_with fail
          go_quiet (fail)
          go_wp2_with fail
          go_roundw
          case rel => exact ⟨k + 1, _, by omega, by go_num, Lib.hid (by rw [HST.out.1, HST.out.2, HE.out, ← HQ.out]), by first | rfl | (rw [World.drewN_drewN])⟩
          case measure => simp [RowKit.intOf]; omega
        · have HRF := Lib.hid (HNE.out he)
          have hb : (xs[k] != ys[k]) = true := by rw [bne_iff_ne]; exact he
          clear he HNE HST
          generalize xs[k] = x at *
          generalize ys[k] = y at *
          go_wp2_with fail
          go_quiet (fail)
          go_wp2_with fail
          go_ret
          rw [HRF.out]
          exact ⟨rfl, ⟨rfl, rfl, rfl, Nat.le_refl _, fun _ _ => rfl⟩⟩
      · obtain rfl : k = xs.length := by omega
        have HRT : Hid (r = true) := Lib.hid (by
          rw [HR.out]
          have := HE.out
          rw [List.take_of_length_le (Nat.le_refl _), HL.out, List.take_of_length_le (Nat.le_refl _)] at this
          exact this)
        go_wp2_with fail
        go_ret
        rw [HRT.out]
        exact ⟨rfl, ⟨rfl, rfl, rfl, Nat.le_refl _, fun _ _ => rfl⟩⟩
  · have hbne : ((xs.length : Int) != (ys.length : Int)) = true := by rw [bne_iff_ne]; omega
    have HRF : Hid (r = false) := Lib.hid (by
      cases hr0 : r with
      | false => rfl
      | true => exact absurd (by rw [HR.out.1 hr0]) hl)
    clear hl
    go_enter Tryz.func45, Tryz.ntmps45
    go_wp2_with fail
    go_ret
    rw [HRF.out]
    exact ⟨rfl, Below.refl _ _⟩

/-- A row of numbers in memory of the call's own, with the mark behind it. -/
def LentI (w : World) (B : Nat) (v : Value) (l : List Int) : Prop :=
  ∃ g cap, v = .slice (some ⟨g, 0, none⟩) l.length cap ∧ l.length < cap ∧ cap ≤ maxLen ∧ B ≤ g ∧ Reads w w.heap.size 1 (some ⟨g, 0, none⟩) (l.length + 1) (intCells (l ++ [-7171]))
theorem LentI.below {w w' : World} {B : Nat} {v : Value} {l : List Int} (h : LentI w B v l) (hb : Below w.heap.size w w') : LentI w' B v l := by
  obtain ⟨g, cap, rfl, h1, h2, h3, h4⟩ := h
  exact ⟨g, cap, rfl, h1, h2, h3, (h4.below hb).more hb.size⟩
theorem LentI.reads {w : World} {B : Nat} {v : Value} {l : List Int} (h : LentI w B v l) : ∃ g cap, v = .slice (some ⟨g, 0, none⟩) l.length cap ∧ l.length < cap ∧ cap ≤ maxLen ∧ Reads w w.heap.size 1 (some ⟨g, 0, none⟩) l.length (intCells l) ∧ g < w.heap.size ∧ w.cell? ⟨g, l.length, none⟩ = some (.int .i64 (-7171)) := by
  obtain ⟨g, cap, rfl, h1, h2, h3, h4⟩ := h
  obtain ⟨ad, ha, hb, hc⟩ := h4.2 (by omega)
  obtain rfl := Option.some.inj ha
  refine ⟨g, cap, rfl, h1, h2, ⟨by simp [intCells], fun hn => ⟨_, rfl, hb, fun j u hu => hc j u ?_⟩⟩, hb, ?_⟩
  · rw [show intCells (l ++ [-7171]) = intCells l ++ intCells [-7171] by simp [intCells], List.getElem?_append_left (List.getElem?_eq_some_iff.1 hu).1]; exact hu
  · have := hc l.length (.int .i64 (-7171)) (by rw [show intCells (l ++ [-7171]) = intCells l ++ intCells [-7171] by simp [intCells], List.getElem?_append_right (by simp [intCells])]; simp [intCells])
    have e : (⟨g, 0, none⟩ : Addr).add l.length = ⟨g, l.length, none⟩ := by unfold Addr.add; split <;> simp_all
    rwa [e] at this
end Go.Proofs.YtinmiekbhoemjaaGreatDoor.Ana
end
section
namespace Go.Proofs.YtinmiekbhoemjaaGreatDoor.FoldRefRunes
open Go.RowKit Go.Lib FoldP FoldInts Kit FoldForms FoldNext FoldValid Words Owned

theorem infoInt : (Tryz.prog.info? 3).map (fun i => (i.zero, i.size, i.bytes)) = some (some (.int .i64 0), 1, 8) := by kernel_rfl
theorem infoRune : (Tryz.prog.info? 21).map (fun i => (i.zero, i.size, i.bytes)) = some (some (.int .i32 0), 1, 4) := by kernel_rfl

def cellP (x : Nat × Int) : Value := .int .i64 (x.1 : Int)
def cellR (x : Nat × Int) : Value := .int .i32 x.2

def RunesRet (l : List UInt8) (w : World) (e : Ending) (w' : World) : Prop :=
  ∃ v1 v2, e = .returned (.tuple #[v1, v2]) ∧ w'.ownsRow w.heap.size 3 1 v1 (runesL l).length ((runesL l).map cellP) ∧ w'.ownsRow w.heap.size 21 1 v2 (runesL l).length ((runesL l).map cellR) ∧ Below w.heap.size w w'

set_option maxHeartbeats 1000000 in
theorem refRunes_any (s : ByteArray) (w : World) (hs : s.size ≤ 1099511627776) :
    Calls Tryz.prog 66 #[.string s] w (RunesRet s.data.toList w) := by
  obtain ⟨i0, hi, hz0, hz1, hz2⟩ := info_parts infoInt
  obtain ⟨j0, hj, hy0, hy1, hy2⟩ := info_parts infoRune
  go_enter Tryz.func66, Tryz.ntmps66
  go_wp2
  go_loopw [4, 5, 6] (fun a b i wr => ∃ (k : Nat) (pre : List (Nat × Int)), k ≤ s.size ∧ pre.length ≤ k ∧ i = .int .i64 k ∧ Hid (pre ++ runesFrom k (s.data.toList.drop k) = runesL s.data.toList) ∧
      Hid (wr.ownsRow w.heap.size 3 1 a pre.length (pre.map cellP)) ∧ Hid (wr.ownsRow w.heap.size 21 1 b pre.length (pre.map cellR)) ∧ Hid (Below w.heap.size w wr)) (fun _ _ i _ => s.size - (RowKit.intOf i).toNat)
  case atStart => exact ⟨0, [], Nat.zero_le _, Nat.le_refl _, rfl, Lib.hid rfl, Lib.hid (World.ownsRow_nil _ _ _ _), Lib.hid (World.ownsRow_nil _ _ _ _), Lib.hid (Below.refl _ _)⟩
  case round =>
    obtain ⟨k, pre, hk, hpl, rfl, HP, HA, HB, HBW⟩ := hrel
    have hlen : s.data.toList.length = s.size := by simp
    by_cases hlt : k < s.size
    · have hst := step_le s.data.toList k (by rw [hlen]; exact hlt)
      have hat := runesAt s.data.toList k (by rw [hlen]; exact hlt)
      rw [hlen] at hst
      clear hlen
      cases hdr : decodeL (s.data.toList.drop k) with
      | mk rr nn =>
      have HN := Lib.hid (refNext_at s k wr (by omega) hlt rr nn hdr)
      rw [hdr] at hst hat
      clear hdr
      dsimp only at hst hat
      obtain ⟨hst1, hst2⟩ := hst
      have HAT := Lib.hid hat; clear hat
      go_wp2_with fail
      refine HN.out.mono ?_
      rintro e w2 ⟨rfl, hb2⟩
      have HB2 := Lib.hid hb2; clear hb2
      have hbw2 : Below w.heap.size w w2 := HBW.out.trans (HB2.out.mono HBW.out.size)
      have ha2 := own_below HA.out HB2.out
      have hB2 := own_below HB.out HB2.out
      go_wp2_with (at_builtin; refine wpList_append_own _ rfl (.tmp 19) (.tmp 21) 44 rfl w.heap.size 3 i0 (.int .i64 0) 1 8 Tryz.underlying44 hi hz0 hz1 hz2 rfl (by decide) u4 pre.length (pre.map cellP) rfl (ha2.alloc _) ⟨w2.heap.size, 0, none⟩ 1 1 [.int .i64 (k : Int)] rfl rfl ?c1 ?c2 ?c3 ?c4 ?c5 ?_)
      case c1 => exact cell_one_new _ _ _
      case c2 => intro u hu; simp at hu; subst hu; rfl
      case c3 => unfold maxLen; omega
      case c4 => omega
      case c5 => have := hbw2.size; simp; omega
      intro v1 w3 hown1 hgrow1 _
      have hB3 := (hB2.alloc (.cells #[.int .i64 (k : Int)] 3)).kept hgrow1 (own_own_ne hB2 ha2 (by decide))
      have hbw3 : Below w.heap.size w w3 := (hbw2.alloc hbw2.size (.cells #[.int .i64 (k : Int)] 3)).grown hgrow1 (by have := hbw2.size; simp; omega) (fun k hk => (ha2.lt k hk).1)
      go_wp2_with (at_builtin; refine wpList_append_own _ rfl (.tmp 23) (.tmp 25) 110 rfl w.heap.size 21 j0 (.int .i32 0) 1 4 Tryz.underlying110 hj hy0 hy1 hy2 rfl (by decide) u5 pre.length (pre.map cellR) rfl (hB3.alloc _) ⟨w3.heap.size, 0, none⟩ 1 1 [.int .i32 (rr : Int)] rfl rfl ?d1 ?d2 ?d3 ?d4 ?d5 ?_)
      case d1 => exact cell_one_new _ _ _
      case d2 => intro u hu; simp at hu; subst hu; rfl
      case d3 => unfold maxLen; omega
      case d4 => omega
      case d5 => have := hbw3.size; simp; omega
      intro v2 w4 hown2 hgrow2 _
      have ha4 := (hown1.alloc (.cells #[.int .i32 (rr : Int)] 21)).kept hgrow2 (own_own_ne hown1 hB3 (by decide))
      have hbw4 : Below w.heap.size w w4 := (hbw3.alloc hbw3.size (.cells #[.int .i32 (rr : Int)] 21)).grown hgrow2 (by have := hbw3.size; simp; omega) (fun k hk => (hB3.lt k hk).1)
      have H1 := Lib.hid ha4
      have H2 := Lib.hid hown2
      have H3 := Lib.hid hbw4
      clear ha4 hown2 hbw4 hown1 hgrow1 hgrow2 hB3 hbw3 ha2 hB2 hbw2
      go_wp2
      go_roundw
      case rel =>
        refine ⟨k + nn, pre ++ [(k, (rr : Int))], hst2, by simp; omega, by go_num, ?_, ?_, ?_, H3⟩
        · unfold Hid; rw [← HP.out, HAT.out]; simp
        · have := H1.out; unfold Hid; simpa [cellP] using this
        · have := H2.out; unfold Hid; simpa [cellR] using this
      case measure => simp [RowKit.intOf]; omega
    · obtain rfl : k = s.size := by omega
      go_wp2_with fail
      go_ret2
      have hp := HP.out
      rw [runesEnd _ _ (by rw [hlen]; exact Nat.le_refl _), List.append_nil] at hp
      subst hp
      exact ⟨_, _, rfl, HA.out, HB.out, HBW.out⟩
end Go.Proofs.YtinmiekbhoemjaaGreatDoor.FoldRefRunes
end
