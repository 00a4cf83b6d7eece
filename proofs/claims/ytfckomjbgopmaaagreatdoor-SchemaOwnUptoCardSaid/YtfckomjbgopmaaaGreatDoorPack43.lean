/- Contracts: rows of numbers compared, lent and kept. Contract: 'Runes' of the document's answer: two new slices, the places and the runes. Contracts: what the document's answer says that a filter makes of a text: lecternref06.one, number by number. Contract: what the document's answer says that the filter of marks makes of a text. Contract: tokens through a filter: the document's Link. Contract: a whole run: analysis.Run. -/
import Derived.Test.YtfckomjbgopmaaaGreatDoorPack11
import Derived.Test.YtfckomjbgopmaaaGreatDoorPack19
import Derived.Deep.QuietTactic
import Derived.BigQuiet
import Derived.Test.YtfckomjbgopmaaaGreatDoorPack27
import Derived.Test.YtfckomjbgopmaaaGreatDoorPack4
import Derived.Test.YtfckomjbgopmaaaGreatDoorAnaLink
import Derived.Test.YtfckomjbgopmaaaGreatDoorPack41
import Derived.Lib.AppendStr
import Derived.Test.YtfckomjbgopmaaaGreatDoorAnaToks4
section
set_option linter.unusedVariables false
namespace Go.Proofs.YtfckomjbgopmaaaGreatDoor.Ana
open Go.RowKit Go.Lib AnaP Words Tree Kit Owned

set_option maxRecDepth 100000 in
set_option maxHeartbeats 1000000 in
theorem ints_any (ao bo : Option Addr) (c d : Nat) (xs ys : List Int) (w : World) (ha : Reads w w.heap.size 1 ao xs.length (intCells xs)) (hb : Reads w w.heap.size 1 bo ys.length (intCells ys)) (hla : xs.length ≤ 9223372036854775807) (hlb : ys.length ≤ 9223372036854775807) (r : Bool) (hr : r = true ↔ xs = ys) :
    Calls Tryz.prog 70 #[.slice ao xs.length c, .slice bo ys.length d] w (BoolB r w) := by
  have HA := Lib.hid ha; have HB := Lib.hid hb; have HR := Lib.hid hr
  clear ha hb hr
  by_cases hl : xs.length = ys.length
  · have HL := Lib.hid hl
    have hbne : ((xs.length : Int) != (ys.length : Int)) = false := by rw [hl]; simp
    clear hl
    go_enter Tryz.func70, Tryz.ntmps70
    go_wp2_with fail
    go_loopw [5] (fun i wr => ∃ (k m : Nat), k ≤ xs.length ∧ i = .int .i64 k ∧ Hid (xs.take k = ys.take k) ∧ wr = w.drewN m) (fun i _ => xs.length - (RowKit.intOf i).toNat)
    case atStart => exact ⟨0, 0, by omega, rfl, Lib.hid (by simp), rfl⟩
    case round =>
      obtain ⟨k, m, hk, rfl, HE, rfl⟩ := hrel
      by_cases hlt : k < xs.length
      · have hlt2 : k < ys.length := by have := HL.out; omega
        obtain ⟨ad, rfl, hba, a0⟩ := reads_int HA.out rfl hlt
        obtain ⟨bd, rfl, hbb, b0⟩ := reads_int HB.out rfl hlt2
        have HST : Hid (xs.take (k + 1) = xs.take k ++ [xs[k]] ∧ ys.take (k + 1) = ys.take k ++ [ys[k]]) := Lib.hid ⟨List.take_succ_eq_append_getElem hlt, List.take_succ_eq_append_getElem hlt2⟩
        have HNE : Hid (¬ xs[k] = ys[k] → r = false) := Lib.hid (fun h => by
          cases hr0 : r with
          | false => rfl
          | true =>
            have e := HR.out.1 hr0
            subst e
            exact absurd rfl h)
        have hx1 : (k : Int) < (xs.length : Int) := by omega
        have hx2 : (k : Int) < (ys.length : Int) := by omega
        by_cases he : xs[k] = ys[k]
        · have HQ := Lib.hid he
          rw [← he] at b0
          clear he HNE
          generalize xs[k] = x at *
          have hb : (x != x) = false := by simp
          go_wp2_with fail
          go_quiet (fail)
          go_wp2_with fail
          go_roundw
          case rel => exact ⟨k + 1, _, by omega, by go_num, Lib.hid (by rw [HST.out.1, HST.out.2, HE.out, ← HQ.out]), by first | rfl | (rw [World.drewN_drewN])⟩
          case measure => simp [RowKit.intOf]; omega
        · have HRF := Lib.hid (HNE.out he)
          have hb : (xs[k] != ys[k]) = true := by rw [bne_iff_ne]; exact he
          clear he HNE HST
          generalize xs[k] = x at *
          generalize ys[k] = y at *
          go_wp2_with fail
          go_quiet (fail)
          go_wp2_with fail
          go_ret
          rw [HRF.out]
          exact ⟨rfl, ⟨rfl, rfl, rfl, Nat.le_refl _, fun _ _ => rfl⟩⟩
      · obtain rfl : k = xs.length := by omega
        have HRT : Hid (r = true) := Lib.hid (by
          rw [HR.out]
          have := HE.out
          rw [List.take_of_length_le (Nat.le_refl _), HL.out, List.take_of_length_le (Nat.le_refl _)] at this
          exact this)
        go_wp2_with fail
        go_ret
        rw [HRT.out]
        exact ⟨rfl, ⟨rfl, rfl, rfl, Nat.le_refl _, fun _ _ => rfl⟩⟩
  · have hbne : ((xs.length : Int) != (ys.length : Int)) = true := by rw [bne_iff_ne]; omega
    have HRF : Hid (r = false) := Lib.hid (by
      cases hr0 : r with
      | false => rfl
      | true => exact absurd (by rw [HR.out.1 hr0]) hl)
    clear hl
    go_enter Tryz.func70, Tryz.ntmps70
    go_wp2_with fail
    go_ret
    rw [HRF.out]
    exact ⟨rfl, Below.refl _ _⟩

/-- A row of numbers in memory of the call's own, with the mark behind it. -/
def LentI (w : World) (B : Nat) (v : Value) (l : List Int) : Prop :=
  ∃ g cap, v = .slice (some ⟨g, 0, none⟩) l.length cap ∧ l.length < cap ∧ cap ≤ maxLen ∧ B ≤ g ∧ Reads w w.heap.size 1 (some ⟨g, 0, none⟩) (l.length + 1) (intCells (l ++ [-7171]))
theorem LentI.below {w w' : World} {B : Nat} {v : Value} {l : List Int} (h : LentI w B v l) (hb : Below w.heap.size w w') : LentI w' B v l := by
  obtain ⟨g, cap, rfl, h1, h2, h3, h4⟩ := h
  exact ⟨g, cap, rfl, h1, h2, h3, (h4.below hb).more hb.size⟩
theorem LentI.reads {w : World} {B : Nat} {v : Value} {l : List Int} (h : LentI w B v l) : ∃ g cap, v = .slice (some ⟨g, 0, none⟩) l.length cap ∧ l.length < cap ∧ cap ≤ maxLen ∧ Reads w w.heap.size 1 (some ⟨g, 0, none⟩) l.length (intCells l) ∧ g < w.heap.size ∧ w.cell? ⟨g, l.length, none⟩ = some (.int .i64 (-7171)) := by
  obtain ⟨g, cap, rfl, h1, h2, h3, h4⟩ := h
  obtain ⟨ad, ha, hb, hc⟩ := h4.2 (by omega)
  obtain rfl := Option.some.inj ha
  refine ⟨g, cap, rfl, h1, h2, ⟨by simp [intCells], fun hn => ⟨_, rfl, hb, fun j u hu => hc j u ?_⟩⟩, hb, ?_⟩
  · rw [show intCells (l ++ [-7171]) = intCells l ++ intCells [-7171] by simp [intCells], List.getElem?_append_left (List.getElem?_eq_some_iff.1 hu).1]; exact hu
  · have := hc l.length (.int .i64 (-7171)) (by rw [show intCells (l ++ [-7171]) = intCells l ++ intCells [-7171] by simp [intCells], List.getElem?_append_right (by simp [intCells])]; simp [intCells])
    have e : (⟨g, 0, none⟩ : Addr).add l.length = ⟨g, l.length, none⟩ := by unfold Addr.add; split <;> simp_all
    rwa [e] at this
end Go.Proofs.YtfckomjbgopmaaaGreatDoor.Ana
end
section
namespace Go.Proofs.YtfckomjbgopmaaaGreatDoor.FoldRefRunes
open Go.RowKit Go.Lib FoldP FoldInts Kit FoldForms FoldNext FoldValid Words Owned

theorem infoInt : (Tryz.prog.info? 3).map (fun i => (i.zero, i.size, i.bytes)) = some (some (.int .i64 0), 1, 8) := by kernel_rfl
theorem infoRune : (Tryz.prog.info? 21).map (fun i => (i.zero, i.size, i.bytes)) = some (some (.int .i32 0), 1, 4) := by kernel_rfl

def cellP (x : Nat × Int) : Value := .int .i64 (x.1 : Int)
def cellR (x : Nat × Int) : Value := .int .i32 x.2

def RunesRet (l : List UInt8) (w : World) (e : Ending) (w' : World) : Prop :=
  ∃ v1 v2, e = .returned (.tuple #[v1, v2]) ∧ w'.ownsRow w.heap.size 3 1 v1 (runesL l).length ((runesL l).map cellP) ∧ w'.ownsRow w.heap.size 21 1 v2 (runesL l).length ((runesL l).map cellR) ∧ Below w.heap.size w w'

set_option maxHeartbeats 1000000 in
theorem refRunes_any (s : ByteArray) (w : World) (hs : s.size ≤ 1099511627776) :
    Calls Tryz.prog 95 #[.string s] w (RunesRet s.data.toList w) := by
  obtain ⟨i0, hi, hz0, hz1, hz2⟩ := info_parts infoInt
  obtain ⟨j0, hj, hy0, hy1, hy2⟩ := info_parts infoRune
  go_enter Tryz.func95, Tryz.ntmps95
  go_wp2
  go_loopw [4, 5, 6] (fun a b i wr => ∃ (k : Nat) (pre : List (Nat × Int)), k ≤ s.size ∧ pre.length ≤ k ∧ i = .int .i64 k ∧ Hid (pre ++ runesFrom k (s.data.toList.drop k) = runesL s.data.toList) ∧
      Hid (wr.ownsRow w.heap.size 3 1 a pre.length (pre.map cellP)) ∧ Hid (wr.ownsRow w.heap.size 21 1 b pre.length (pre.map cellR)) ∧ Hid (Below w.heap.size w wr)) (fun _ _ i _ => s.size - (RowKit.intOf i).toNat)
  case atStart => exact ⟨0, [], Nat.zero_le _, Nat.le_refl _, rfl, Lib.hid rfl, Lib.hid (World.ownsRow_nil _ _ _ _), Lib.hid (World.ownsRow_nil _ _ _ _), Lib.hid (Below.refl _ _)⟩
  case round =>
    obtain ⟨k, pre, hk, hpl, rfl, HP, HA, HB, HBW⟩ := hrel
    have hlen : s.data.toList.length = s.size := by simp
    by_cases hlt : k < s.size
    · have hst := step_le s.data.toList k (by rw [hlen]; exact hlt)
      have hat := runesAt s.data.toList k (by rw [hlen]; exact hlt)
      rw [hlen] at hst
      clear hlen
      cases hdr : decodeL (s.data.toList.drop k) with
      | mk rr nn =>
      have HN := Lib.hid (refNext_at s k wr (by omega) hlt rr nn hdr)
      rw [hdr] at hst hat
      clear hdr
      dsimp only at hst hat
      obtain ⟨hst1, hst2⟩ := hst
      have HAT := Lib.hid hat; clear hat
      go_wp2_with fail
      refine HN.out.mono ?_
      rintro e w2 ⟨rfl, hb2⟩
      have HB2 := Lib.hid hb2; clear hb2
      have hbw2 : Below w.heap.size w w2 := HBW.out.trans (HB2.out.mono HBW.out.size)
      have ha2 := own_below HA.out HB2.out
      have hB2 := own_below HB.out HB2.out
      go_wp2_with (at_builtin; refine wpList_append_own _ rfl (.tmp 19) (.tmp 21) 52 rfl w.heap.size 3 i0 (.int .i64 0) 1 8 Tryz.underlying52 hi hz0 hz1 hz2 rfl (by decide) u4 pre.length (pre.map cellP) rfl (ha2.alloc _) ⟨w2.heap.size, 0, none⟩ 1 1 [.int .i64 (k : Int)] rfl rfl ?c1 ?c2 ?c3 ?c4 ?c5 ?_)
      case c1 => exact cell_one_new _ _ _
      case c2 => intro u hu; simp at hu; subst hu; rfl
      case c3 => unfold maxLen; omega
      case c4 => omega
      case c5 => have := hbw2.size; simp; omega
      intro v1 w3 hown1 hgrow1 _
      have hB3 := (hB2.alloc (.cells #[.int .i64 (k : Int)] 3)).kept hgrow1 (own_own_ne hB2 ha2 (by decide))
      have hbw3 : Below w.heap.size w w3 := (hbw2.alloc hbw2.size (.cells #[.int .i64 (k : Int)] 3)).grown hgrow1 (by have := hbw2.size; simp; omega) (fun k hk => (ha2.lt k hk).1)
      go_wp2_with (at_builtin; refine wpList_append_own _ rfl (.tmp 23) (.tmp 25) 142 rfl w.heap.size 21 j0 (.int .i32 0) 1 4 Tryz.underlying142 hj hy0 hy1 hy2 rfl (by decide) u5 pre.length (pre.map cellR) rfl (hB3.alloc _) ⟨w3.heap.size, 0, none⟩ 1 1 [.int .i32 (rr : Int)] rfl rfl ?d1 ?d2 ?d3 ?d4 ?d5 ?_)
      case d1 => exact cell_one_new _ _ _
      case d2 => intro u hu; simp at hu; subst hu; rfl
      case d3 => unfold maxLen; omega
      case d4 => omega
      case d5 => have := hbw3.size; simp; omega
      intro v2 w4 hown2 hgrow2 _
      have ha4 := (hown1.alloc (.cells #[.int .i32 (rr : Int)] 21)).kept hgrow2 (own_own_ne hown1 hB3 (by decide))
      have hbw4 : Below w.heap.size w w4 := (hbw3.alloc hbw3.size (.cells #[.int .i32 (rr : Int)] 21)).grown hgrow2 (by have := hbw3.size; simp; omega) (fun k hk => (hB3.lt k hk).1)
      have H1 := Lib.hid ha4
      have H2 := Lib.hid hown2
      have H3 := Lib.hid hbw4
      clear ha4 hown2 hbw4 hown1 hgrow1 hgrow2 hB3 hbw3 ha2 hB2 hbw2
      go_wp2
      go_roundw
      case rel =>
        refine ⟨k + nn, pre ++ [(k, (rr : Int))], hst2, by simp; omega, by go_num, ?_, ?_, ?_, H3⟩
        · unfold Hid; rw [← HP.out, HAT.out]; simp
        · have := H1.out; unfold Hid; simpa [cellP] using this
        · have := H2.out; unfold Hid; simpa [cellR] using this
      case measure => simp [RowKit.intOf]; omega
    · obtain rfl : k = s.size := by omega
      go_wp2_with fail
      go_ret2
      have hp := HP.out
      rw [runesEnd _ _ (by rw [hlen]; exact Nat.le_refl _), List.append_nil] at hp
      subst hp
      exact ⟨_, _, rfl, HA.out, HB.out, HBW.out⟩
end Go.Proofs.YtfckomjbgopmaaaGreatDoor.FoldRefRunes
end
section
set_option linter.unusedVariables false
namespace Go.Proofs.YtfckomjbgopmaaaGreatDoor.Ana
open Go.RowKit Go.Lib FoldP FoldNext FoldRefFold FoldAmong AnaP Words Tree Kit Owned
open FoldRefRunes (refRunes_any cellP cellR)

end Go.Proofs.YtfckomjbgopmaaaGreatDoor.Ana
end
section
set_option linter.unusedVariables false
namespace Go.Proofs.YtfckomjbgopmaaaGreatDoor.Ana
open Go.RowKit Go.Lib FoldP FoldNext FoldRefFold FoldAmong AnaP Words Tree Kit Owned
open FoldRefRunes (refRunes_any cellP cellR)

end Go.Proofs.YtfckomjbgopmaaaGreatDoor.Ana
end
section
set_option linter.unusedVariables false
namespace Go.Proofs.YtfckomjbgopmaaaGreatDoor.Ana
open Go.RowKit Go.Lib FoldP FoldNext AnaP Words Tree Kit Owned

/-- The row of texts that one has answered, while tokens are appended. -/
def TxtRow (w : World) (B : Nat) (bo : Option Addr) (O : List ByteArray) (o : Value) (wq : World) : Prop :=
  Reads wq B 1 bo O.length (O.map Value.string) ∧ (∀ g bd, o.ownBlock = some g → bo = some bd → g ≠ bd.block) ∧ B ≤ wq.heap.size ∧ Below w.heap.size w wq
theorem TxtRow.alloc {w : World} {B : Nat} {bo : Option Addr} {O : List ByteArray} {o : Value} {wq : World} (h : TxtRow w B bo O o wq) (x : Obj) : TxtRow w B bo O o (wq.alloc x) :=
  ⟨h.1.alloc h.2.2.1 _, h.2.1, by have := h.2.2.1; simp; omega, h.2.2.2.alloc h.2.2.2.size _⟩
theorem TxtRow.set_ {w : World} {B : Nat} {bo : Option Addr} {O : List ByteArray} {o : Value} {wq : World} (h : TxtRow w B bo O o wq) (hw : w.heap.size ≤ B) {g : Nat} (hg : B ≤ g) (u : Value) : TxtRow w B bo O o (wq.setCell ⟨g, 0, none⟩ u) :=
  ⟨h.1.setCell hg u, h.2.1, by have := h.2.2.1; simpa using this, h.2.2.2.setCell (p := ⟨g, 0, none⟩) (Nat.le_trans hw hg) u⟩
theorem TxtRow.grown {w : World} {B : Nat} {bd : Addr} {O : List ByteArray} {o o' : Value} {wq w' : World} (h : TxtRow w B (some bd) O o wq) (hw : w.heap.size ≤ B) (hb : bd.block < B) (hg : wq.grownBy w' o.ownBlock) (hr : ∀ r, o.ownBlock = some r → w.heap.size ≤ r) (ho : o'.ownBlock = o.ownBlock ∨ o'.ownBlock = some wq.heap.size) : TxtRow w B (some bd) O o' w' := by
  obtain ⟨h1, h2, h3, h4⟩ := h
  refine ⟨⟨h1.1, fun hn => ?_⟩, fun g b e1 e2 => ?_, Nat.le_trans h3 hg.size, h4.grown hg (Nat.le_trans hw h3) hr⟩
  · obtain ⟨ad, e, hb1, hc⟩ := h1.2 hn
    refine ⟨ad, e, hb1, fun j u hu => (hg.cell_far _ (by rw [block_of_add]; omega) (fun e2 => ?_)).trans (hc j u hu)⟩
    rw [block_of_add] at e2
    exact h2 _ _ e2.symm e rfl
  · cases e2
    rcases ho with e | e
    · exact h2 g bd (e ▸ e1) rfl
    · rw [e] at e1; cases e1; omega

end Go.Proofs.YtfckomjbgopmaaaGreatDoor.Ana
end
section
set_option linter.unusedVariables false
namespace Go.Proofs.YtfckomjbgopmaaaGreatDoor.Ana
open Go.RowKit Go.Lib FoldP FoldInts Kit FoldForms FoldNext AnaP Words Owned Tree

/-- Tokens of the call's own and a number are answered. -/
def RunRet (r : List TokD × Int) (w : World) (e : Ending) (w' : World) : Prop :=
  ∃ ao c, e = .returned (.tuple #[.slice ao r.1.length c, .int .i64 r.2]) ∧ w'.ownsRow w.heap.size 59 4 (.slice ao r.1.length c) r.1.length (tokCells r.1) ∧ Below w.heap.size w w'
theorem runRet_none {k : Int} {w w' : World} {e : Ending} (h : e = .returned (.tuple #[.slice none 0 0, .int .i64 k])) (hb : Below w.heap.size w w') : RunRet ([], k) w e w' := ⟨none, 0, h, World.ownsRow_nil _ _ _ _, hb⟩
theorem toks_any (n : Int) (h1 : 1 ≤ n) (h4 : n ≤ 4) (s : ByteArray) (w : World) (hs : s.size ≤ 4096) (hT : Tabs w) : Calls Tryz.prog 66 #[.int .i64 n, .string s] w (OwnToks (tokensF n s) w) := by
  rcases (show n = 1 ∨ n = 2 ∨ n = 3 ∨ n = 4 by omega) with rfl | rfl | rfl | rfl
  · exact toks_1 s w (by omega) hT
  · exact toks_2 s w (by omega) hT
  · exact toks_3 s w (by omega) hT
  · exact toks_4 s w (by omega) hT
theorem check_filters {l : List Int} (h : checkB l = true) : 1 ≤ l.length ∧ l.length ≤ 8 ∧ 1 ≤ l.getD 0 0 ∧ l.getD 0 0 ≤ 4 ∧ ∀ n ∈ l.tail, filterB n = true := by
  cases l with
  | nil => cases h
  | cons a t =>
    simp only [checkB, Bool.and_eq_true, decide_eq_true_eq] at h
    obtain ⟨⟨⟨h1, h2⟩, h3⟩, h4⟩ := h
    refine ⟨by simp, by simp only [List.length_cons]; omega, h2, h3, fun n hn => ?_⟩
    obtain ⟨i, hi, rfl⟩ := List.mem_iff_getElem.1 hn
    have h5 := (checkGo_iff t []).1 h4 i hi
    have hi' : i < t.length := hi
    have e : t.getD i 0 = t[i] := by rw [List.getD_eq_getElem?_getD, List.getElem?_eq_getElem hi']; rfl
    rw [e] at h5
    exact h5.1
theorem linkAll_step {T : List Int} {k : Nat} (h : k < T.length) (t : List TokD) : linkAll (T.drop k) t = (match linkF T[k] t with
    | none => ([], 84)
    | some t' => linkAll (T.drop (k + 1)) t') := by
  rw [List.drop_eq_getElem_cons h]; rfl

set_option maxRecDepth 100000 in
set_option maxHeartbeats 1000000 in
theorem run_bad (ao : Option Addr) (n c : Nat) (l : List Int) (s : ByteArray) (w : World) (hn : n = l.length) (hk : Reads w w.heap.size 1 ao n (intCells l)) (hc : n ≤ c) (hm : c ≤ maxLen) (h : checkB l = false) :
    Calls Tryz.prog 37 #[.slice ao n c, .string s] w (RunRet (runF l s) w) := by
  have HC := Lib.hid (check_any ao n c l w hn hk hc hm)
  rw [h] at HC
  have HR : Hid (runF l s = ([], 60)) := Lib.hid (by unfold runF; rw [if_pos h])
  rw [HR.out]
  clear hk hn h
  go_enter Tryz.func37, Tryz.ntmps37
  go_wp2_with fail
  refine HC.out.mono ?_
  rintro e w1 ⟨rfl, b1⟩
  have HB := Lib.hid b1; clear b1
  go_wp2_with fail
  go_ret2
  exact runRet_none rfl HB.out
set_option maxRecDepth 100000 in
set_option maxHeartbeats 1000000 in
theorem run_long (ao : Option Addr) (n c : Nat) (l : List Int) (s : ByteArray) (w : World) (hn : n = l.length) (hk : Reads w w.heap.size 1 ao n (intCells l)) (hc : n ≤ c) (hm : c ≤ maxLen) (h : checkB l = true) (hs : 4096 < s.size) (hs2 : s.size ≤ 9223372036854775807) :
    Calls Tryz.prog 37 #[.slice ao n c, .string s] w (RunRet (runF l s) w) := by
  have HC := Lib.hid (check_any ao n c l w hn hk hc hm)
  rw [h] at HC
  have HR : Hid (runF l s = ([], 3)) := Lib.hid (by unfold runF; rw [h, if_neg (by decide), if_pos hs])
  have h1 : decide ((4096 : Int) < s.size) = true := by rw [decide_eq_true_iff]; omega
  rw [HR.out]
  clear hk hn h
  go_enter Tryz.func37, Tryz.ntmps37
  go_wp2_with fail
  refine HC.out.mono ?_
  rintro e w1 ⟨rfl, b1⟩
  have HB := Lib.hid b1; clear b1
  go_wp2_with fail
  go_ret2
  exact runRet_none rfl HB.out
set_option maxRecDepth 100000 in
set_option maxHeartbeats 2000000 in
theorem run_go (ad : Addr) (c : Nat) (a : Int) (T : List Int) (s : ByteArray) (w : World) (hk : Reads w w.heap.size 1 (some ad) (T.length + 1) (intCells (a :: T))) (hc : T.length + 1 ≤ c) (hm : c ≤ maxLen) (h : checkB (a :: T) = true) (hs : s.size ≤ 4096) (hT : Tabs w) :
    Calls Tryz.prog 37 #[.slice (some ad) (T.length + 1) c, .string s] w (RunRet (runF (a :: T) s) w) := by
  have HC := Lib.hid (check_any (some ad) (T.length + 1) c (a :: T) w rfl hk hc hm)
  obtain ⟨_, h8, ha1, ha4, hf⟩ := check_filters h
  simp only [List.getD_cons_zero, List.length_cons, List.tail_cons] at ha1 ha4 hf h8
  rw [h] at HC
  have HF := Lib.hid hf
  have hl := tokensF_len a s
  obtain ⟨R, hR⟩ : ∃ R, runF (a :: T) s = R := ⟨_, rfl⟩
  have HR : Hid (linkAll (T.drop 0) (tokensF a s) = R) := Lib.hid (by rw [← hR]; unfold runF; rw [h, if_neg (by decide), if_neg (by omega), if_neg (by simp only [List.getD_cons_zero]; omega)]; rfl)
  rw [hR]
  have HTS : Hid (∀ t ∈ tokensF a s, t.text.size ≤ 4096) := Lib.hid (fun t ht => by have := tokensF_size a s t ht; omega)
  have HTK := Lib.hid (fun W hW => toks_any a ha1 ha4 s W hs (hT.next hW))
  have HT := Lib.hid hT
  obtain ⟨ad', e, hba, hcell⟩ := hk.2 (by omega)
  cases e
  have h0 : w.cell? ad = some (.int .i64 a) := hcell 0 _ rfl
  have HCE : Hid (∀ (j : Nat) (v : Int), T[j]? = some v → w.cell? (ad.add (1 + j)) = some (.int .i64 v)) := Lib.hid (fun j v hj => hcell (1 + j) _ (by rw [Nat.add_comm]; simp [intCells, hj]))
  have H0 := Lib.hid h0
  have h40 : decide ((4096 : Int) < s.size) = false := by rw [decide_eq_false_iff_not]; omega
  have h41 : ¬ 4096 < s.size := by omega
  unfold maxLen at hm
  clear hk h hT hR hf hcell h0
  generalize tokensF a s = ts0 at *
  have h50 : ¬ 4096 < ts0.length := by omega
  have h51 : decide ((4096 : Int) < ts0.length) = false := by rw [decide_eq_false_iff_not]; omega
  obtain ⟨n, hn⟩ : ∃ n, n = T.length + 1 := ⟨_, rfl⟩
  rw [← hn] at HC hc ⊢
  have hn1 : n ≤ T.length + 1 := by omega
  have hn2 : T.length + 1 ≤ n := by omega
  clear hn
  by_cases hc1 : c = 1
  · subst hc1
    have hT0 : T.length = 0 := by omega
    obtain rfl := List.eq_nil_of_length_eq_zero hT0
    obtain rfl : n = 1 := by simp at hn2; omega
    have HRE : Hid (R = (ts0, 0)) := Lib.hid (by rw [← HR.out]; rfl)
    clear hT0 HR
    go_enter Tryz.func37, Tryz.ntmps37
    go_wp2_with fail
    refine HC.out.mono ?_
    rintro e w1 ⟨rfl, b1⟩
    have hc0 : w1.cell? ad = some (.int .i64 a) := (b1.cell hba).trans H0.out
    have HB1 := Lib.hid b1; clear b1
    go_wp2_with fail
    refine (HTK.out _ HB1.out).mono ?_
    rintro e w2 ⟨v, rfl, o2, b2⟩
    obtain ⟨aot, ct, rfl⟩ := own_slice2 o2
    have HO2 := Lib.hid (own_base o2 HB1.out.size)
    have HB2 := Lib.hid (HB1.out.trans (b2.mono HB1.out.size))
    clear o2 b2 hc0
    go_wp2_with fail
    go_loopw [7, 9, 10, 11, 31] (fun o _ _ _ i wq => o = .slice aot ts0.length ct ∧ i = .int .i64 0 ∧ wq = w2) (fun _ _ _ _ _ _ => 0)
    case atStart => exact ⟨rfl, rfl, rfl⟩
    case round =>
      obtain ⟨rfl, rfl, rfl⟩ := hrel
      go_wp2_with fail
      go_ret2
      rw [HRE.out]
      exact ⟨aot, ct, rfl, HO2.out, HB2.out⟩
  · have a5 : (c == 1) = false := by rw [beq_eq_false_iff_ne]; exact hc1
    go_enter Tryz.func37, Tryz.ntmps37
    go_wp2_with fail
    refine HC.out.mono ?_
    rintro e w1 ⟨rfl, b1⟩
    have hc0 : w1.cell? ad = some (.int .i64 a) := (b1.cell hba).trans H0.out
    have HB1 := Lib.hid b1; clear b1
    go_wp2_with fail
    refine (HTK.out _ HB1.out).mono ?_
    rintro e w2 ⟨v, rfl, o2, b2⟩
    obtain ⟨aot, ct, rfl⟩ := own_slice2 o2
    have HO2 := Lib.hid (own_base o2 HB1.out.size)
    have HB2 := Lib.hid (HB1.out.trans (b2.mono HB1.out.size))
    clear o2 b2 hc0
    go_wp2_with fail
    go_loopw [7, 9, 10, 11, 31] (fun o _ _ _ i wq => ∃ (k : Nat) (ts : List TokD) (ao : Option Addr) (co : Nat), k ≤ T.length ∧ ts.length ≤ 4096 ∧ i = .int .i64 k ∧ o = .slice ao ts.length co ∧ Hid (wq.ownsRow w.heap.size 59 4 (.slice ao ts.length co) ts.length (tokCells ts)) ∧ Hid (linkAll (T.drop k) ts = R) ∧ Hid (∀ t ∈ ts, t.text.size ≤ 4096) ∧ Hid (Below w.heap.size w wq)) (fun _ _ _ _ i _ => T.length - (RowKit.intOf i).toNat)
    case atStart => exact ⟨0, ts0, aot, ct, by omega, by omega, rfl, rfl, HO2, HR, HTS, HB2⟩
    case round =>
      obtain ⟨k, ts, ao, co, hk, htl, rfl, rfl, HO, HE, HX, HW⟩ := hrel
      have hzr := HW.out.size
      by_cases hlt : k < T.length
      · have hcw : wr.cell? (ad.add (1 + k)) = some (.int .i64 T[k]) := (HW.out.cell (by rw [block_of_add]; exact hba)).trans (HCE.out k T[k] (List.getElem?_eq_getElem hlt))
        have hcw2 : wr.cell? ⟨ad.block, ad.off + 1 + k, none⟩ = some (.int .i64 T[k]) := by rw [add_pos _ (by omega), ← Nat.add_assoc] at hcw; exact hcw
        have HST := Lib.hid (linkAll_step hlt ts)
        have hfk := HF.out T[k] (List.getElem_mem hlt)
        clear hcw
        generalize T[k] = x at *
        have HL := Lib.hid (fun W (hW : Below w.heap.size w W) hr => link_any x hfk ao co ts W hr (by omega) (fun t ht => by have := HX.out t ht; omega) (HT.out.next hW))
        have HRD := Lib.hid (Reads.of_own HO.out)
        have HX2 : Hid (∀ ts', linkF x ts = some ts' → ∀ t ∈ ts', t.text.size ≤ 4096) := Lib.hid (fun ts' e => link_all (p := fun t => t.text.size ≤ 4096) (fun t y h1 h2 => by have := one_size x t.text y h2; exact Nat.le_trans this h1) HX.out e)
        have HX3 : Hid (∀ ts', linkF x ts = some ts' → ts'.length ≤ 4096) := Lib.hid (fun ts' e => linkF_len4 e)
        clear hfk
        generalize linkF x ts = LR at *
        go_wp2_with fail
        refine (HL.out wr HW.out HRD.out).mono ?_
        rintro e w3 (⟨rfl, rfl, b3⟩ | ⟨ts', ao', co', rfl, rfl, o3, b3⟩)
        · have HN : Hid (R = ([], 84)) := Lib.hid (by rw [← HE.out, HST.out])
          have HB3 := Lib.hid (HW.out.trans (b3.mono hzr))
          clear b3 hcw2
          go_wp2_with fail
          go_ret2
          rw [HN.out]
          exact runRet_none rfl HB3.out
        · have HN : Hid (linkAll (T.drop (k + 1)) ts' = R) := Lib.hid (by rw [← HE.out, HST.out])
          have HB3 := Lib.hid (HW.out.trans (b3.mono hzr))
          have HO3 := Lib.hid (own_base o3 hzr)
          have htl2 := HX3.out ts' rfl
          have HX4 := Lib.hid (HX2.out ts' rfl)
          clear b3 hcw2 o3
          go_wp2_with fail
          go_roundw
          case rel => exact ⟨k + 1, ts', ao', co', by omega, htl2, by go_num, rfl, HO3, HN, HX4, HB3⟩
          case measure => simp [RowKit.intOf]; omega
      · obtain rfl : k = T.length := by omega
        have HN : Hid (R = (ts, 0)) := Lib.hid (by rw [← HE.out, List.drop_length]; rfl)
        have hlt2 : ¬ (T.length < n - 1) := by omega
        go_wp2_with fail
        go_ret2
        rw [HN.out]
        exact ⟨ao, co, rfl, HO.out, HW.out⟩
/-- A WHOLE RUN. -/
theorem run_any (ao : Option Addr) (n c : Nat) (l : List Int) (s : ByteArray) (w : World) (hn : n = l.length) (hk : Reads w w.heap.size 1 ao n (intCells l)) (hc : n ≤ c) (hm : c ≤ maxLen) (hs : s.size ≤ 9223372036854775807) (hT : Tabs w) :
    Calls Tryz.prog 37 #[.slice ao n c, .string s] w (RunRet (runF l s) w) := by
  cases h : checkB l with
  | false => exact run_bad ao n c l s w hn hk hc hm h
  | true =>
    by_cases h4 : s.size ≤ 4096
    · have h1 := (check_filters h).1
      subst hn
      match l, h1 with
      | a :: T, _ =>
        obtain ⟨ad, rfl, _, _⟩ := hk.2 (by simp)
        exact run_go ad c a T s w hk hc hm h h4 hT
    · exact run_long ao n c l s w hn hk hc hm h (by omega) hs
end Go.Proofs.YtfckomjbgopmaaaGreatDoor.Ana
end
