/- Contracts: what the document's answer says that a filter makes of a text: lecternref06.one, number by number. -/
import Derived.Test.YtinmiekbhoemjaaGreatDoorAnaLink
import Derived.Test.YtinmiekbhoemjaaGreatDoorPack32
import Derived.Test.YtinmiekbhoemjaaGreatDoorPack29
import Derived.Lib.AppendStr
set_option linter.unusedVariables false
namespace Go.Proofs.YtinmiekbhoemjaaGreatDoor.Ana
open Go.RowKit Go.Lib FoldP FoldNext FoldRefFold FoldAmong AnaP Words Tree Kit Owned
open FoldRefRunes (refRunes_any cellP cellR)

theorem infoStr : (Tryz.prog.info? 9).map (fun i => (i.zero, i.size, i.bytes)) = some (some (.string ⟨#[]⟩), 1, 16) := by kernel_rfl
/-- A row of texts is answered. -/
def StrRow (xs : List ByteArray) (w : World) (e : Ending) (w' : World) : Prop := ∃ ao c, e = .returned (.slice ao xs.length c) ∧ Reads w' w'.heap.size 1 ao xs.length (xs.map Value.string) ∧ Below w.heap.size w w' ∧ ∀ ad, ao = some ad → w.heap.size ≤ ad.block
theorem strRow_nil {w w' : World} (h : Below w.heap.size w w') : StrRow [] w (.returned (.slice none 0 0)) w' := ⟨none, 0, rfl, Reads.none_, h, fun _ e => by cases e⟩
theorem strRow_one {w W : World} {e : Ending} (x : ByteArray) {g : Nat} (h : Below w.heap.size w W) (hg : g = W.heap.size) (he : e = .returned (.slice (some ⟨g, 0, none⟩) 1 1)) : StrRow [x] w e (W.alloc (.cells #[.string x] 9)) := by
  subst hg
  exact ⟨_, _, he, ⟨rfl, fun _ => ⟨_, rfl, by simp, fun j u hu => cells_new W [.string x] _ j u hu⟩⟩, h.alloc h.size _, fun _ e => by cases e; exact h.size⟩
theorem own_fresh {w : World} {B n : Nat} {e : TypeId} {ao : Option Addr} {cp : Nat} {xs : List Value} (h : w.ownsRow B e 1 (.slice ao n cp) n xs) : ∀ ad, ao = some ad → B ≤ ad.block := by
  intro ad e1
  rcases own_form h with ⟨h1, _⟩ | ⟨g, cap, h1, hb, _⟩
  · subst e1; cases h1
  · subst e1; cases h1; exact hb
theorem pos_cells (s : ByteArray) : (runesL s.data.toList).map cellP ++ [.int .i64 (s.size : Int)] = (posL s.data.toList).map cellN := by
  have e : s.data.toList.length = s.size := by simp
  unfold posL posFrom
  rw [List.drop_zero, List.map_append, List.map_map, e]; rfl

set_option maxRecDepth 100000 in
set_option maxHeartbeats 2000000 in
theorem one_10 (s : ByteArray) (w : World) (hs : s.size ≤ 1048576) :
    Calls Tryz.prog 68 #[.int .i64 10, .string s] w (StrRow (oneF 10 s) w) := by
  obtain ⟨i0, hi, hz0, hz1, hz2⟩ := info_parts infoInt
  have hnr := nR_le s.data.toList
  have hlen : s.data.toList.length = s.size := by simp
  rw [hlen] at hnr
  have HPC := Lib.hid (pos_cells s)
  have HRL : Hid ((runesL s.data.toList).length = nR s.data.toList) := Lib.hid rfl
  have HPG : Hid (∀ i, i ≤ nR s.data.toList → (posL s.data.toList)[i]? = some (posAt s.data.toList i)) := Lib.hid (fun i h => posAt_get _ i h)
  have e : oneF 10 s = [str (foldL s.data.toList)] := rfl
  rw [e]
  clear hlen
  generalize hRS : (runesL s.data.toList).map cellP = rc at *
  have HRS := Lib.hid hRS; clear hRS
  generalize hP : posAt s.data.toList = P at *
  clear hP
  generalize posL s.data.toList = pl at *
  generalize nR s.data.toList = m at *
  go_enter Tryz.func68, Tryz.ntmps68
  go_wp2_with fail
  refine (refRunes_any s _ (by omega)).mono ?_
  rintro e w1 ⟨v1, v2, rfl, o1, o2, b1⟩
  obtain ⟨ao2, cp2, rfl⟩ := own_slice o2
  rw [HRL.out] at o1 o2 ⊢
  rw [HRS.out] at o1
  have HB1 := Lib.hid b1
  have HO2 := Lib.hid o2
  have HO1 := Lib.hid o1
  have hz1' := b1.size
  have hoa := o1.alloc (.cells #[.int .i64 (s.size : Int)] 3)
  clear o1 o2 b1
  go_wp2_with (at_builtin; refine wpList_append_own _ rfl (.tmp 18) (.tmp 21) 44 rfl w.heap.size 3 i0 (.int .i64 0) 1 8 Tryz.underlying44 hi hz0 hz1 hz2 rfl (by decide) _ m rc rfl hoa ⟨w1.heap.size, 0, none⟩ 1 1 [.int .i64 (s.size : Int)] rfl rfl ?c1 ?c2 ?c3 ?c4 ?c5 ?_)
  case c1 => exact cell_one_new _ _ _
  case c2 => intro u hu; simp at hu; subst hu; rfl
  case c3 => unfold maxLen; omega
  case c4 => omega
  case c5 => simp; omega
  intro v1' w2 o1' g1 _
  have HB2 := Lib.hid ((HB1.out.alloc HB1.out.size (.cells #[.int .i64 (s.size : Int)] 3)).grown g1 (by simp; omega) (fun r e => (HO1.out.lt r e).1))
  have HO3 := Lib.hid ((HO2.out.alloc (.cells #[.int .i64 (s.size : Int)] 3)).kept g1 (own_own_ne (HO2.out.alloc _) hoa (by decide)))
  rw [HPC.out] at o1'
  obtain ⟨g, cap, cur, rfl, hg1, hg2, hc1, hc2, hcell⟩ := ints_blk o1' (by omega)
  have HG := Lib.hid hg2; have HCE := Lib.hid hcell
  have hglt := hg2.lt
  have hz2' := HB2.out.size
  unfold maxLen at hc2
  clear o1' g1 hoa hg2 hcell HO1 HO2 HB1 hi hz0 hz1 hz2
  go_wp2_with fail
  refine (refFold_any s _ (by omega)).mono ?_
  rintro e w3 ⟨rfl, b3⟩
  have HB3 := Lib.hid (HB2.out.trans (b3.mono HB2.out.size)); clear b3
  go_wp2_with fail
  go_ret
  exact strRow_one (str (foldL s.data.toList)) HB3.out rfl rfl

set_option maxRecDepth 100000 in
set_option maxHeartbeats 2000000 in
theorem one_11_true (s : ByteArray) (w : World) (hs : s.size ≤ 1048576) (hst : stopF s = true) :
    Calls Tryz.prog 68 #[.int .i64 11, .string s] w (StrRow [] w) := by
  obtain ⟨i0, hi, hz0, hz1, hz2⟩ := info_parts infoInt
  have hnr := nR_le s.data.toList
  have hlen : s.data.toList.length = s.size := by simp
  rw [hlen] at hnr
  have HPC := Lib.hid (pos_cells s)
  have HRL : Hid ((runesL s.data.toList).length = nR s.data.toList) := Lib.hid rfl
  have HPG : Hid (∀ i, i ≤ nR s.data.toList → (posL s.data.toList)[i]? = some (posAt s.data.toList i)) := Lib.hid (fun i h => posAt_get _ i h)
  have HST : Hid (∀ W, Calls Tryz.prog 82 #[.string s] W (BoolB true W)) := Lib.hid (fun W => by rw [← hst]; exact refStop_any s W)
  clear hlen hst
  generalize hRS : (runesL s.data.toList).map cellP = rc at *
  have HRS := Lib.hid hRS; clear hRS
  generalize hP : posAt s.data.toList = P at *
  clear hP
  generalize posL s.data.toList = pl at *
  generalize nR s.data.toList = m at *
  go_enter Tryz.func68, Tryz.ntmps68
  go_wp2_with fail
  refine (refRunes_any s _ (by omega)).mono ?_
  rintro e w1 ⟨v1, v2, rfl, o1, o2, b1⟩
  obtain ⟨ao2, cp2, rfl⟩ := own_slice o2
  rw [HRL.out] at o1 o2 ⊢
  rw [HRS.out] at o1
  have HB1 := Lib.hid b1
  have HO2 := Lib.hid o2
  have HO1 := Lib.hid o1
  have hz1' := b1.size
  have hoa := o1.alloc (.cells #[.int .i64 (s.size : Int)] 3)
  clear o1 o2 b1
  go_wp2_with (at_builtin; refine wpList_append_own _ rfl (.tmp 18) (.tmp 21) 44 rfl w.heap.size 3 i0 (.int .i64 0) 1 8 Tryz.underlying44 hi hz0 hz1 hz2 rfl (by decide) _ m rc rfl hoa ⟨w1.heap.size, 0, none⟩ 1 1 [.int .i64 (s.size : Int)] rfl rfl ?c1 ?c2 ?c3 ?c4 ?c5 ?_)
  case c1 => exact cell_one_new _ _ _
  case c2 => intro u hu; simp at hu; subst hu; rfl
  case c3 => unfold maxLen; omega
  case c4 => omega
  case c5 => simp; omega
  intro v1' w2 o1' g1 _
  have HB2 := Lib.hid ((HB1.out.alloc HB1.out.size (.cells #[.int .i64 (s.size : Int)] 3)).grown g1 (by simp; omega) (fun r e => (HO1.out.lt r e).1))
  have HO3 := Lib.hid ((HO2.out.alloc (.cells #[.int .i64 (s.size : Int)] 3)).kept g1 (own_own_ne (HO2.out.alloc _) hoa (by decide)))
  rw [HPC.out] at o1'
  obtain ⟨g, cap, cur, rfl, hg1, hg2, hc1, hc2, hcell⟩ := ints_blk o1' (by omega)
  have HG := Lib.hid hg2; have HCE := Lib.hid hcell
  have hglt := hg2.lt
  have hz2' := HB2.out.size
  unfold maxLen at hc2
  clear o1' g1 hoa hg2 hcell HO1 HO2 HB1 hi hz0 hz1 hz2
  go_wp2_with fail
  refine (HST.out _).mono ?_
  rintro e w3 ⟨rfl, b3⟩
  have HB3 := Lib.hid (HB2.out.trans (b3.mono HB2.out.size)); clear b3
  go_wp2_with fail
  go_ret
  exact strRow_nil HB3.out

set_option maxRecDepth 100000 in
set_option maxHeartbeats 2000000 in
theorem one_11_false (s : ByteArray) (w : World) (hs : s.size ≤ 1048576) (hst : stopF s = false) :
    Calls Tryz.prog 68 #[.int .i64 11, .string s] w (StrRow [s] w) := by
  obtain ⟨i0, hi, hz0, hz1, hz2⟩ := info_parts infoInt
  have hnr := nR_le s.data.toList
  have hlen : s.data.toList.length = s.size := by simp
  rw [hlen] at hnr
  have HPC := Lib.hid (pos_cells s)
  have HRL : Hid ((runesL s.data.toList).length = nR s.data.toList) := Lib.hid rfl
  have HPG : Hid (∀ i, i ≤ nR s.data.toList → (posL s.data.toList)[i]? = some (posAt s.data.toList i)) := Lib.hid (fun i h => posAt_get _ i h)
  have HST : Hid (∀ W, Calls Tryz.prog 82 #[.string s] W (BoolB false W)) := Lib.hid (fun W => by rw [← hst]; exact refStop_any s W)
  clear hlen hst
  generalize hRS : (runesL s.data.toList).map cellP = rc at *
  have HRS := Lib.hid hRS; clear hRS
  generalize hP : posAt s.data.toList = P at *
  clear hP
  generalize posL s.data.toList = pl at *
  generalize nR s.data.toList = m at *
  go_enter Tryz.func68, Tryz.ntmps68
  go_wp2_with fail
  refine (refRunes_any s _ (by omega)).mono ?_
  rintro e w1 ⟨v1, v2, rfl, o1, o2, b1⟩
  obtain ⟨ao2, cp2, rfl⟩ := own_slice o2
  rw [HRL.out] at o1 o2 ⊢
  rw [HRS.out] at o1
  have HB1 := Lib.hid b1
  have HO2 := Lib.hid o2
  have HO1 := Lib.hid o1
  have hz1' := b1.size
  have hoa := o1.alloc (.cells #[.int .i64 (s.size : Int)] 3)
  clear o1 o2 b1
  go_wp2_with (at_builtin; refine wpList_append_own _ rfl (.tmp 18) (.tmp 21) 44 rfl w.heap.size 3 i0 (.int .i64 0) 1 8 Tryz.underlying44 hi hz0 hz1 hz2 rfl (by decide) _ m rc rfl hoa ⟨w1.heap.size, 0, none⟩ 1 1 [.int .i64 (s.size : Int)] rfl rfl ?c1 ?c2 ?c3 ?c4 ?c5 ?_)
  case c1 => exact cell_one_new _ _ _
  case c2 => intro u hu; simp at hu; subst hu; rfl
  case c3 => unfold maxLen; omega
  case c4 => omega
  case c5 => simp; omega
  intro v1' w2 o1' g1 _
  have HB2 := Lib.hid ((HB1.out.alloc HB1.out.size (.cells #[.int .i64 (s.size : Int)] 3)).grown g1 (by simp; omega) (fun r e => (HO1.out.lt r e).1))
  have HO3 := Lib.hid ((HO2.out.alloc (.cells #[.int .i64 (s.size : Int)] 3)).kept g1 (own_own_ne (HO2.out.alloc _) hoa (by decide)))
  rw [HPC.out] at o1'
  obtain ⟨g, cap, cur, rfl, hg1, hg2, hc1, hc2, hcell⟩ := ints_blk o1' (by omega)
  have HG := Lib.hid hg2; have HCE := Lib.hid hcell
  have hglt := hg2.lt
  have hz2' := HB2.out.size
  unfold maxLen at hc2
  clear o1' g1 hoa hg2 hcell HO1 HO2 HB1 hi hz0 hz1 hz2
  go_wp2_with fail
  refine (HST.out _).mono ?_
  rintro e w3 ⟨rfl, b3⟩
  have HB3 := Lib.hid (HB2.out.trans (b3.mono HB2.out.size)); clear b3
  go_wp2_with fail
  go_ret
  exact strRow_one s HB3.out rfl rfl

theorem one_11 (s : ByteArray) (w : World) (hs : s.size ≤ 1048576) : Calls Tryz.prog 68 #[.int .i64 11, .string s] w (StrRow (oneF 11 s) w) := by
  have e : oneF 11 s = if stopF s then [] else [s] := by unfold oneF; rw [if_neg (by omega), if_pos rfl]
  rw [e]
  cases h : stopF s with
  | true => exact one_11_true s w hs h
  | false => exact one_11_false s w hs h

set_option maxRecDepth 100000 in
set_option maxHeartbeats 2000000 in
theorem one_14_long (s : ByteArray) (w : World) (hs : s.size ≤ 1048576) (hn : 16 < nR s.data.toList) :
    Calls Tryz.prog 68 #[.int .i64 14, .string s] w (StrRow [s.extract 0 (posAt s.data.toList 16)] w) := by
  obtain ⟨i0, hi, hz0, hz1, hz2⟩ := info_parts infoInt
  have hnr := nR_le s.data.toList
  have hlen : s.data.toList.length = s.size := by simp
  rw [hlen] at hnr
  have HPC := Lib.hid (pos_cells s)
  have HRL : Hid ((runesL s.data.toList).length = nR s.data.toList) := Lib.hid rfl
  have HPG : Hid (∀ i, i ≤ nR s.data.toList → (posL s.data.toList)[i]? = some (posAt s.data.toList i)) := Lib.hid (fun i h => posAt_get _ i h)
  have hpe : posAt s.data.toList 16 ≤ s.size := by rw [← hlen]; exact posAt_le _ _
  clear hlen
  generalize hRS : (runesL s.data.toList).map cellP = rc at *
  have HRS := Lib.hid hRS; clear hRS
  generalize hP : posAt s.data.toList = P at *
  clear hP
  generalize posL s.data.toList = pl at *
  generalize nR s.data.toList = m at *
  go_enter Tryz.func68, Tryz.ntmps68
  go_wp2_with fail
  refine (refRunes_any s _ (by omega)).mono ?_
  rintro e w1 ⟨v1, v2, rfl, o1, o2, b1⟩
  obtain ⟨ao2, cp2, rfl⟩ := own_slice o2
  rw [HRL.out] at o1 o2 ⊢
  rw [HRS.out] at o1
  have HB1 := Lib.hid b1
  have HO2 := Lib.hid o2
  have HO1 := Lib.hid o1
  have hz1' := b1.size
  have hoa := o1.alloc (.cells #[.int .i64 (s.size : Int)] 3)
  clear o1 o2 b1
  go_wp2_with (at_builtin; refine wpList_append_own _ rfl (.tmp 18) (.tmp 21) 44 rfl w.heap.size 3 i0 (.int .i64 0) 1 8 Tryz.underlying44 hi hz0 hz1 hz2 rfl (by decide) _ m rc rfl hoa ⟨w1.heap.size, 0, none⟩ 1 1 [.int .i64 (s.size : Int)] rfl rfl ?c1 ?c2 ?c3 ?c4 ?c5 ?_)
  case c1 => exact cell_one_new _ _ _
  case c2 => intro u hu; simp at hu; subst hu; rfl
  case c3 => unfold maxLen; omega
  case c4 => omega
  case c5 => simp; omega
  intro v1' w2 o1' g1 _
  have HB2 := Lib.hid ((HB1.out.alloc HB1.out.size (.cells #[.int .i64 (s.size : Int)] 3)).grown g1 (by simp; omega) (fun r e => (HO1.out.lt r e).1))
  have HO3 := Lib.hid ((HO2.out.alloc (.cells #[.int .i64 (s.size : Int)] 3)).kept g1 (own_own_ne (HO2.out.alloc _) hoa (by decide)))
  rw [HPC.out] at o1'
  obtain ⟨g, cap, cur, rfl, hg1, hg2, hc1, hc2, hcell⟩ := ints_blk o1' (by omega)
  have HG := Lib.hid hg2; have HCE := Lib.hid hcell
  have hglt := hg2.lt
  have hz2' := HB2.out.size
  unfold maxLen at hc2
  clear o1' g1 hoa hg2 hcell HO1 HO2 HB1 hi hz0 hz1 hz2
  have h16 : w2.cell? ⟨g, 16, none⟩ = some (.int .i64 (P 16 : Int)) := (HG.out.cell 16).trans (HCE.out 16 _ (HPG.out 16 (by omega)))
  go_wp2_with fail
  go_ret
  exact strRow_one _ HB2.out rfl rfl

set_option maxRecDepth 100000 in
set_option maxHeartbeats 2000000 in
theorem one_14_short (s : ByteArray) (w : World) (hs : s.size ≤ 1048576) (hn : ¬ 16 < nR s.data.toList) :
    Calls Tryz.prog 68 #[.int .i64 14, .string s] w (StrRow [s] w) := by
  obtain ⟨i0, hi, hz0, hz1, hz2⟩ := info_parts infoInt
  have hnr := nR_le s.data.toList
  have hlen : s.data.toList.length = s.size := by simp
  rw [hlen] at hnr
  have HPC := Lib.hid (pos_cells s)
  have HRL : Hid ((runesL s.data.toList).length = nR s.data.toList) := Lib.hid rfl
  have HPG : Hid (∀ i, i ≤ nR s.data.toList → (posL s.data.toList)[i]? = some (posAt s.data.toList i)) := Lib.hid (fun i h => posAt_get _ i h)
  clear hlen
  generalize hRS : (runesL s.data.toList).map cellP = rc at *
  have HRS := Lib.hid hRS; clear hRS
  generalize hP : posAt s.data.toList = P at *
  clear hP
  generalize posL s.data.toList = pl at *
  generalize nR s.data.toList = m at *
  go_enter Tryz.func68, Tryz.ntmps68
  go_wp2_with fail
  refine (refRunes_any s _ (by omega)).mono ?_
  rintro e w1 ⟨v1, v2, rfl, o1, o2, b1⟩
  obtain ⟨ao2, cp2, rfl⟩ := own_slice o2
  rw [HRL.out] at o1 o2 ⊢
  rw [HRS.out] at o1
  have HB1 := Lib.hid b1
  have HO2 := Lib.hid o2
  have HO1 := Lib.hid o1
  have hz1' := b1.size
  have hoa := o1.alloc (.cells #[.int .i64 (s.size : Int)] 3)
  clear o1 o2 b1
  go_wp2_with (at_builtin; refine wpList_append_own _ rfl (.tmp 18) (.tmp 21) 44 rfl w.heap.size 3 i0 (.int .i64 0) 1 8 Tryz.underlying44 hi hz0 hz1 hz2 rfl (by decide) _ m rc rfl hoa ⟨w1.heap.size, 0, none⟩ 1 1 [.int .i64 (s.size : Int)] rfl rfl ?c1 ?c2 ?c3 ?c4 ?c5 ?_)
  case c1 => exact cell_one_new _ _ _
  case c2 => intro u hu; simp at hu; subst hu; rfl
  case c3 => unfold maxLen; omega
  case c4 => omega
  case c5 => simp; omega
  intro v1' w2 o1' g1 _
  have HB2 := Lib.hid ((HB1.out.alloc HB1.out.size (.cells #[.int .i64 (s.size : Int)] 3)).grown g1 (by simp; omega) (fun r e => (HO1.out.lt r e).1))
  have HO3 := Lib.hid ((HO2.out.alloc (.cells #[.int .i64 (s.size : Int)] 3)).kept g1 (own_own_ne (HO2.out.alloc _) hoa (by decide)))
  rw [HPC.out] at o1'
  obtain ⟨g, cap, cur, rfl, hg1, hg2, hc1, hc2, hcell⟩ := ints_blk o1' (by omega)
  have HG := Lib.hid hg2; have HCE := Lib.hid hcell
  have hglt := hg2.lt
  have hz2' := HB2.out.size
  unfold maxLen at hc2
  clear o1' g1 hoa hg2 hcell HO1 HO2 HB1 hi hz0 hz1 hz2
  go_wp2_with fail
  go_ret
  exact strRow_one _ HB2.out rfl rfl

theorem one_14 (s : ByteArray) (w : World) (hs : s.size ≤ 1048576) : Calls Tryz.prog 68 #[.int .i64 14, .string s] w (StrRow (oneF 14 s) w) := by
  have e : oneF 14 s = shortF s := by unfold oneF; rw [if_neg (by omega), if_neg (by omega), if_neg (by omega), if_neg (by omega), if_pos rfl]
  rw [e]
  unfold shortF
  by_cases h : 16 < nR s.data.toList
  · rw [if_pos h]; exact one_14_long s w hs h
  · rw [if_neg h]; exact one_14_short s w hs h

set_option maxRecDepth 100000 in
set_option maxHeartbeats 2000000 in
theorem one_12_few (s : ByteArray) (w : World) (hs : s.size ≤ 1048576) (hn : nR s.data.toList ≤ 2) :
    Calls Tryz.prog 68 #[.int .i64 12, .string s] w (StrRow [s] w) := by
  obtain ⟨i0, hi, hz0, hz1, hz2⟩ := info_parts infoInt
  have hnr := nR_le s.data.toList
  have hlen : s.data.toList.length = s.size := by simp
  rw [hlen] at hnr
  have HPC := Lib.hid (pos_cells s)
  have HRL : Hid ((runesL s.data.toList).length = nR s.data.toList) := Lib.hid rfl
  have HPG : Hid (∀ i, i ≤ nR s.data.toList → (posL s.data.toList)[i]? = some (posAt s.data.toList i)) := Lib.hid (fun i h => posAt_get _ i h)
  clear hlen
  generalize hRS : (runesL s.data.toList).map cellP = rc at *
  have HRS := Lib.hid hRS; clear hRS
  generalize hP : posAt s.data.toList = P at *
  clear hP
  generalize posL s.data.toList = pl at *
  generalize nR s.data.toList = m at *
  go_enter Tryz.func68, Tryz.ntmps68
  go_wp2_with fail
  refine (refRunes_any s _ (by omega)).mono ?_
  rintro e w1 ⟨v1, v2, rfl, o1, o2, b1⟩
  obtain ⟨ao2, cp2, rfl⟩ := own_slice o2
  rw [HRL.out] at o1 o2 ⊢
  rw [HRS.out] at o1
  have HB1 := Lib.hid b1
  have HO2 := Lib.hid o2
  have HO1 := Lib.hid o1
  have hz1' := b1.size
  have hoa := o1.alloc (.cells #[.int .i64 (s.size : Int)] 3)
  clear o1 o2 b1
  go_wp2_with (at_builtin; refine wpList_append_own _ rfl (.tmp 18) (.tmp 21) 44 rfl w.heap.size 3 i0 (.int .i64 0) 1 8 Tryz.underlying44 hi hz0 hz1 hz2 rfl (by decide) _ m rc rfl hoa ⟨w1.heap.size, 0, none⟩ 1 1 [.int .i64 (s.size : Int)] rfl rfl ?c1 ?c2 ?c3 ?c4 ?c5 ?_)
  case c1 => exact cell_one_new _ _ _
  case c2 => intro u hu; simp at hu; subst hu; rfl
  case c3 => unfold maxLen; omega
  case c4 => omega
  case c5 => simp; omega
  intro v1' w2 o1' g1 _
  have HB2 := Lib.hid ((HB1.out.alloc HB1.out.size (.cells #[.int .i64 (s.size : Int)] 3)).grown g1 (by simp; omega) (fun r e => (HO1.out.lt r e).1))
  have HO3 := Lib.hid ((HO2.out.alloc (.cells #[.int .i64 (s.size : Int)] 3)).kept g1 (own_own_ne (HO2.out.alloc _) hoa (by decide)))
  rw [HPC.out] at o1'
  obtain ⟨g, cap, cur, rfl, hg1, hg2, hc1, hc2, hcell⟩ := ints_blk o1' (by omega)
  have HG := Lib.hid hg2; have HCE := Lib.hid hcell
  have hglt := hg2.lt
  have hz2' := HB2.out.size
  unfold maxLen at hc2
  clear o1' g1 hoa hg2 hcell HO1 HO2 HB1 hi hz0 hz1 hz2
  go_wp2_with fail
  go_loop [9, 10] (fun o i => o = .slice none 0 0 ∧ i = .int .i64 0) (fun _ _ => 0)
  case atStart => exact ⟨rfl, rfl⟩
  case round =>
    obtain ⟨rfl, rfl⟩ := hrel
    by_cases hq : m = 2
    · subst hq
      go_wp2_with fail
      go_ret
      exact strRow_one _ HB2.out rfl rfl
    · have hq1 : m < 2 := by omega
      go_wp2_with fail
      go_ret
      exact strRow_one _ HB2.out rfl rfl

set_option maxRecDepth 100000 in
set_option maxHeartbeats 2000000 in
theorem one_12_many (s : ByteArray) (w : World) (hs : s.size ≤ 1048576) (hn : ¬ nR s.data.toList ≤ 2) :
    Calls Tryz.prog 68 #[.int .i64 12, .string s] w (StrRow ((List.range (nR s.data.toList + 1 - 2)).map fun i => s.extract (posAt s.data.toList i) (posAt s.data.toList (i + 2))) w) := by
  obtain ⟨i0, hi, hz0, hz1, hz2⟩ := info_parts infoInt
  have hnr := nR_le s.data.toList
  have hlen : s.data.toList.length = s.size := by simp
  rw [hlen] at hnr
  have HPC := Lib.hid (pos_cells s)
  have HRL : Hid ((runesL s.data.toList).length = nR s.data.toList) := Lib.hid rfl
  have HPG : Hid (∀ i, i ≤ nR s.data.toList → (posL s.data.toList)[i]? = some (posAt s.data.toList i)) := Lib.hid (fun i h => posAt_get _ i h)
  have HPM : Hid (∀ i, i + 2 ≤ nR s.data.toList → posAt s.data.toList i ≤ posAt s.data.toList (i + 2) ∧ posAt s.data.toList (i + 2) ≤ s.size) := Lib.hid (fun i h => ⟨posAt_mono _ _ _ (by omega) h, by rw [← hlen]; exact posAt_le _ _⟩)
  obtain ⟨j0, hj, hy0, hy1, hy2⟩ := info_parts infoStr
  have HJ1 := Lib.hid hj; have HJ2 := Lib.hid hy0; have HJ3 := Lib.hid hy1; have HJ4 := Lib.hid hy2
  obtain ⟨G, hG⟩ : ∃ G : Nat → ByteArray, (fun i => s.extract (posAt s.data.toList i) (posAt s.data.toList (i + 2))) = G := ⟨_, rfl⟩
  rw [hG]
  have HGE : Hid (∀ i, G i = s.extract (posAt s.data.toList i) (posAt s.data.toList (i + 2))) := Lib.hid (fun i => (congrFun hG i).symm)
  clear hlen hj hy0 hy1 hy2 hG
  generalize hRS : (runesL s.data.toList).map cellP = rc at *
  have HRS := Lib.hid hRS; clear hRS
  generalize hP : posAt s.data.toList = P at *
  clear hP
  generalize posL s.data.toList = pl at *
  generalize nR s.data.toList = m at *
  go_enter Tryz.func68, Tryz.ntmps68
  go_wp2_with fail
  refine (refRunes_any s _ (by omega)).mono ?_
  rintro e w1 ⟨v1, v2, rfl, o1, o2, b1⟩
  obtain ⟨ao2, cp2, rfl⟩ := own_slice o2
  rw [HRL.out] at o1 o2 ⊢
  rw [HRS.out] at o1
  have HB1 := Lib.hid b1
  have HO2 := Lib.hid o2
  have HO1 := Lib.hid o1
  have hz1' := b1.size
  have hoa := o1.alloc (.cells #[.int .i64 (s.size : Int)] 3)
  clear o1 o2 b1
  go_wp2_with (at_builtin; refine wpList_append_own _ rfl (.tmp 18) (.tmp 21) 44 rfl w.heap.size 3 i0 (.int .i64 0) 1 8 Tryz.underlying44 hi hz0 hz1 hz2 rfl (by decide) _ m rc rfl hoa ⟨w1.heap.size, 0, none⟩ 1 1 [.int .i64 (s.size : Int)] rfl rfl ?c1 ?c2 ?c3 ?c4 ?c5 ?_)
  case c1 => exact cell_one_new _ _ _
  case c2 => intro u hu; simp at hu; subst hu; rfl
  case c3 => unfold maxLen; omega
  case c4 => omega
  case c5 => simp; omega
  intro v1' w2 o1' g1 _
  have HB2 := Lib.hid ((HB1.out.alloc HB1.out.size (.cells #[.int .i64 (s.size : Int)] 3)).grown g1 (by simp; omega) (fun r e => (HO1.out.lt r e).1))
  have HO3 := Lib.hid ((HO2.out.alloc (.cells #[.int .i64 (s.size : Int)] 3)).kept g1 (own_own_ne (HO2.out.alloc _) hoa (by decide)))
  rw [HPC.out] at o1'
  obtain ⟨g, cap, cur, rfl, hg1, hg2, hc1, hc2, hcell⟩ := ints_blk o1' (by omega)
  have HG := Lib.hid hg2; have HCE := Lib.hid hcell
  have hglt := hg2.lt
  have hz2' := HB2.out.size
  unfold maxLen at hc2
  clear o1' g1 hoa hg2 hcell HO1 HO2 HB1 hi hz0 hz1 hz2
  have hbad : ¬ m < 2 := by omega
  go_wp2_with fail
  go_loopw [9, 10] (fun o i wr => ∃ j : Nat, j ≤ m + 1 - 2 ∧ i = .int .i64 j ∧ Hid (wr.ownsRow w2.heap.size 9 1 o j (((List.range j).map G).map Value.string)) ∧ Hid (Below w2.heap.size w2 wr)) (fun _ i _ => m + 1 - 2 - (RowKit.intOf i).toNat)
  case atStart => exact ⟨0, by omega, rfl, Lib.hid (World.ownsRow_nil _ _ _ _), Lib.hid (Below.refl _ _)⟩
  case round =>
    obtain ⟨j, hj, rfl, HO, HW⟩ := hrel
    have hzr := HW.out.size
    by_cases hlt : j < m + 1 - 2
    · obtain ⟨hpm1, hpm2⟩ := HPM.out j (by omega)
      have hx1 : (j : Int) < (m : Int) + 1 := by omega
      have hx2 : (j : Int) + 2 < (m : Int) + 1 := by omega
      have hx3 : (P j : Int) ≤ (P (j + 2) : Int) := by omega
      have hx4 : (P (j + 2) : Int) ≤ (s.size : Int) := by omega
      have SF : Hid (∀ W, Below w2.heap.size w2 W → W.cell? ⟨g, j, none⟩ = some (.int .i64 (P j : Int)) ∧ W.cell? ⟨g, j + 2, none⟩ = some (.int .i64 (P (j + 2) : Int))) := Lib.hid (fun W h => ⟨((HG.out.below h hglt).cell j).trans (HCE.out j _ (HPG.out j (by omega))), ((HG.out.below h hglt).cell (j + 2)).trans (HCE.out (j + 2) _ (HPG.out (j + 2) (by omega)))⟩)
      have hD : Below w2.heap.size w2 wr.drew := HW.out.drew
      have HO2 : Hid (wr.drew.ownsRow w2.heap.size 9 1 u9 j (((List.range j).map G).map Value.string)) := HO
      go_upto_region 17 with fail
      have hw3 : ((j : Int) + 2).toNat = j + 2 := by omega
      have hw2 : 0 ≤ (j : Int) + 2 := by omega
      have hw1 : IntKind.i64.wrap ((j : Int) + 2) = (j : Int) + 2 := IntWalk.i64_in _ (by omega)
      refine wp_region_held_drew (S := fun W => Below w2.heap.size w2 W) (by kernel_rfl) hD (fun hS0 => ?_)
      generalize wr.drew = W at *
      refine' wpAnyH_take (i := 0) (v := _) (by simp only [List.getElem?_toArray, List.getElem?_cons_zero]; rfl) (by kernel_rfl) (by kernel_rfl) (by kernel_rfl) (by exact fun _ _ _ h => h) (Or.inl ⟨by rfl, ?hy0⟩) hS0 ?rest0
      case hy0 => intro V hSw; clear hSw; go_simp; try with_reducible rfl
      try simp only [Act.put, List.setIfInBounds_toArray, List.set_cons_zero, List.set_cons_succ]
      refine' wpAnyH_take (i := 1) (v := _) (by simp only [List.getElem?_toArray, List.getElem?_cons_succ, List.getElem?_cons_zero]; rfl) (by kernel_rfl) (by kernel_rfl) (by kernel_rfl) (by exact fun _ _ _ h => h) (Or.inl ⟨by rfl, ?hy1⟩) hS0 ?rest1
      case hy1 => intro V hSw; clear hSw; go_simp; try with_reducible rfl
      try simp only [Act.put, List.setIfInBounds_toArray, List.set_cons_zero, List.set_cons_succ]
      refine' wpAnyH_take (i := 2) (v := _) (by simp only [List.getElem?_toArray, List.getElem?_cons_succ, List.getElem?_cons_zero]; rfl) (by kernel_rfl) (by kernel_rfl) (by kernel_rfl) (by exact fun _ _ _ h => h) (Or.inl ⟨by rfl, ?hy2⟩) hS0 ?rest2
      case hy2 => intro V hSw; clear hSw; go_simp; try with_reducible rfl
      try simp only [Act.put, List.setIfInBounds_toArray, List.set_cons_zero, List.set_cons_succ]
      refine' wpAnyH_take (i := 3) (v := _) (by simp only [List.getElem?_toArray, List.getElem?_cons_succ, List.getElem?_cons_zero]; rfl) (by kernel_rfl) (by kernel_rfl) (by kernel_rfl) (by exact fun _ _ _ h => h) (Or.inl ⟨by rfl, ?hy3⟩) hS0 ?rest3
      case hy3 => intro V hSw; clear hSw; go_simp; try with_reducible rfl
      try simp only [Act.put, List.setIfInBounds_toArray, List.set_cons_zero, List.set_cons_succ]
      refine' wpAnyH_take (i := 4) (v := _) (by simp only [List.getElem?_toArray, List.getElem?_cons_succ, List.getElem?_cons_zero]; rfl) (by kernel_rfl) (by kernel_rfl) (by kernel_rfl) (by exact fun _ _ _ h => h) (Or.inl ⟨by rfl, ?hy4⟩) hS0 ?rest4
      case hy4 => intro V hSw; clear hSw; go_simp; try with_reducible rfl
      try simp only [Act.put, List.setIfInBounds_toArray, List.set_cons_zero, List.set_cons_succ]
      refine' wpAnyH_take (i := 5) (v := _) (by simp only [List.getElem?_toArray, List.getElem?_cons_succ, List.getElem?_cons_zero]; rfl) (by kernel_rfl) (by kernel_rfl) (by kernel_rfl) (by exact fun _ _ _ h => h) (Or.inl ⟨by rfl, ?hy5⟩) hS0 ?rest5
      case hy5 => intro V hSw; obtain ⟨f0, f1⟩ := SF.out V hSw; clear hSw; go_simp; try with_reducible rfl
      try simp only [Act.put, List.setIfInBounds_toArray, List.set_cons_zero, List.set_cons_succ]
      refine' wpAnyH_take (i := 6) (v := _) (by simp only [List.getElem?_toArray, List.getElem?_cons_succ, List.getElem?_cons_zero]; rfl) (by kernel_rfl) (by kernel_rfl) (by kernel_rfl) (by exact fun _ _ _ h => h) (Or.inl ⟨by rfl, ?hy6⟩) hS0 ?rest6
      case hy6 => intro V hSw; clear hSw; go_simp; try with_reducible rfl
      try simp only [Act.put, List.setIfInBounds_toArray, List.set_cons_zero, List.set_cons_succ]
      refine' wpAnyH_take (i := 7) (v := _) (by simp only [List.getElem?_toArray, List.getElem?_cons_succ, List.getElem?_cons_zero]; rfl) (by kernel_rfl) (by kernel_rfl) (by kernel_rfl) (by exact fun _ _ _ h => h) (Or.inl ⟨by rfl, ?hy7⟩) hS0 ?rest7
      case hy7 => intro V hSw; clear hSw; go_simp; try with_reducible rfl
      try simp only [Act.put, List.setIfInBounds_toArray, List.set_cons_zero, List.set_cons_succ]
      refine' wpAnyH_take (i := 8) (v := _) (by simp only [List.getElem?_toArray, List.getElem?_cons_succ, List.getElem?_cons_zero]; rfl) (by kernel_rfl) (by kernel_rfl) (by kernel_rfl) (by exact fun _ _ _ h => h) (Or.inl ⟨by rfl, ?hy8⟩) hS0 ?rest8
      case hy8 => intro V hSw; clear hSw; go_simp; try with_reducible rfl
      try simp only [Act.put, List.setIfInBounds_toArray, List.set_cons_zero, List.set_cons_succ]
      refine' wpAnyH_take (i := 9) (v := _) (by simp only [List.getElem?_toArray, List.getElem?_cons_succ, List.getElem?_cons_zero]; rfl) (by kernel_rfl) (by kernel_rfl) (by kernel_rfl) (by exact fun _ _ _ h => h) (Or.inl ⟨by rfl, ?hy9⟩) hS0 ?rest9
      case hy9 => intro V hSw; clear hSw; go_simp; try with_reducible rfl
      try simp only [Act.put, List.setIfInBounds_toArray, List.set_cons_zero, List.set_cons_succ]
      refine' wpAnyH_take (i := 10) (v := _) (by simp only [List.getElem?_toArray, List.getElem?_cons_succ, List.getElem?_cons_zero]; rfl) (by kernel_rfl) (by kernel_rfl) (by kernel_rfl) (by exact fun _ _ _ h => h) (Or.inl ⟨by rfl, ?hy10⟩) hS0 ?rest10
      case hy10 => intro V hSw; clear hSw; go_simp; try with_reducible rfl
      try simp only [Act.put, List.setIfInBounds_toArray, List.set_cons_zero, List.set_cons_succ]
      refine' wpAnyH_take (i := 11) (v := _) (by simp only [List.getElem?_toArray, List.getElem?_cons_succ, List.getElem?_cons_zero]; rfl) (by kernel_rfl) (by kernel_rfl) (by kernel_rfl) (by exact fun _ _ _ h => h) (Or.inl ⟨by rfl, ?hy11⟩) hS0 ?rest11
      case hy11 => intro V hSw; obtain ⟨f0, f1⟩ := SF.out V hSw; clear hSw; go_simp; try with_reducible rfl
      try simp only [Act.put, List.setIfInBounds_toArray, List.set_cons_zero, List.set_cons_succ]
      refine' wpAnyH_take (i := 12) (v := _) (by simp only [List.getElem?_toArray, List.getElem?_cons_succ, List.getElem?_cons_zero]; rfl) (by kernel_rfl) (by kernel_rfl) (by kernel_rfl) (by exact fun _ _ _ h => h) (Or.inl ⟨by rfl, ?hy12⟩) hS0 ?rest12
      case hy12 => intro V hSw; clear hSw; go_simp; try with_reducible rfl
      try simp only [Act.put, List.setIfInBounds_toArray, List.set_cons_zero, List.set_cons_succ]
      refine wpAnyH_ready (rs := [13]) (by kernel_rfl) (by simp) ?_
      refine' AllReadyH.cons (by simp only [List.getElem?_toArray, List.getElem?_cons_succ, List.getElem?_cons_zero]; rfl) (fun K hK => ?_) AllReadyH.nil
      go_simp
      refine hK.out _ _ (hS0.alloc hS0.size _) (fun hS1 => ?_)
      try simp only [Act.put, List.setIfInBounds_toArray, List.set_cons_zero, List.set_cons_succ]
      clear hw1 hw2 hw3
      have hzW := hS0.size
      have hoW := HO2.out
      have hj1 := HJ1.out; have hj2 := HJ2.out; have hj3 := HJ3.out; have hj4 := HJ4.out
      refine wpAnyH_ready (rs := [14]) (by kernel_rfl) (by simp) ?_
      refine' AllReadyH.cons (by simp only [List.getElem?_toArray, List.getElem?_cons_succ, List.getElem?_cons_zero]; rfl) (fun K hK => ?_) AllReadyH.nil
      refine step_append_any _ rfl (.tmp 52) (.tmp 65) 32 rfl w2.heap.size 9 j0 (.string ⟨#[]⟩) 1 16 Tryz.underlying32 hj1 hj2 hj3 hj4 rfl (by decide) u9 j (((List.range j).map G).map Value.string) rfl (hoW.alloc _) (W.heap.size + 1) (some ⟨W.heap.size, 0, none⟩) 1 1 [.string (s.extract (P j) (P (j + 2)))] rfl ?d1 ?d2 ?d3 ?d4 ?d5 ?_
      case d1 => exact ⟨rfl, fun _ => ⟨_, rfl, Nat.lt_succ_self _, cell_one_new _ _ _⟩⟩
      case d2 => intro u hu; simp at hu; subst hu; rfl
      case d3 => unfold maxLen; omega
      case d4 => omega
      case d5 => simp; omega
      intro v' w4 ho4 hg4 _
      have hb4 : Below w2.heap.size w2 w4 := (hS0.alloc hzW _).grown hg4 (by simp; omega) (fun r e => (hoW.lt r e).1)
      have HO4 : Hid (w4.ownsRow w2.heap.size 9 1 v' (j + 1) (((List.range (j + 1)).map G).map Value.string)) := Lib.hid (by rw [List.range_succ, List.map_append, List.map_append, List.map_cons, List.map_nil, List.map_cons, List.map_nil, HGE.out]; simpa using ho4)
      have HB4 := Lib.hid hb4
      refine hK.out _ _ hb4 (fun hS2 => ?_)
      try simp only [Act.put, List.setIfInBounds_toArray, List.set_cons_zero, List.set_cons_succ]
      refine' wpAnyH_take (i := 15) (v := _) (by simp only [List.getElem?_toArray, List.getElem?_cons_succ, List.getElem?_cons_zero]; rfl) (by kernel_rfl) (by kernel_rfl) (by kernel_rfl) (by exact fun _ _ _ h => h) (Or.inl ⟨by rfl, ?hy15⟩) hS2 ?rest15
      case hy15 => intro V hSw; clear hSw; go_simp; try with_reducible rfl
      try simp only [Act.put, List.setIfInBounds_toArray, List.set_cons_zero, List.set_cons_succ]
      refine wpAnyH_done (by kernel_rfl) ?_ _
      clear hoW ho4 hg4 hb4 hj1 hj2 hj3 hj4
      go_wp2_with fail
      go_roundw
      case rel => exact ⟨j + 1, by omega, by go_num, HO4, HB4⟩
      case measure => simp [RowKit.intOf]; omega
    · obtain rfl : j = m + 1 - 2 := by omega
      obtain ⟨ao, cp, rfl⟩ := own_slice HO.out
      have HOW := Lib.hid (Reads.of_own HO.out)
      have HFR := Lib.hid (fun ad e => Nat.le_trans HB2.out.size (own_fresh HO.out ad e))
      have HB : Hid (Below w.heap.size w wr) := Lib.hid (HB2.out.trans (HW.out.mono HB2.out.size))
      go_wp2_with fail
      go_ret
      refine ⟨ao, cp, by simp, ?_, HB.out, HFR.out⟩
      have := HOW.out
      simpa using this

theorem one_12 (s : ByteArray) (w : World) (hs : s.size ≤ 1048576) : Calls Tryz.prog 68 #[.int .i64 12, .string s] w (StrRow (oneF 12 s) w) := by
  have e : oneF 12 s = gramsF 2 s := rfl
  rw [e]
  unfold gramsF
  by_cases h : nR s.data.toList ≤ 2
  · rw [if_pos h]; exact one_12_few s w hs h
  · rw [if_neg h]; exact one_12_many s w hs h

set_option maxRecDepth 100000 in
set_option maxHeartbeats 2000000 in
theorem one_13_few (s : ByteArray) (w : World) (hs : s.size ≤ 1048576) (hn : nR s.data.toList ≤ 3) :
    Calls Tryz.prog 68 #[.int .i64 13, .string s] w (StrRow [s] w) := by
  obtain ⟨i0, hi, hz0, hz1, hz2⟩ := info_parts infoInt
  have hnr := nR_le s.data.toList
  have hlen : s.data.toList.length = s.size := by simp
  rw [hlen] at hnr
  have HPC := Lib.hid (pos_cells s)
  have HRL : Hid ((runesL s.data.toList).length = nR s.data.toList) := Lib.hid rfl
  have HPG : Hid (∀ i, i ≤ nR s.data.toList → (posL s.data.toList)[i]? = some (posAt s.data.toList i)) := Lib.hid (fun i h => posAt_get _ i h)
  clear hlen
  generalize hRS : (runesL s.data.toList).map cellP = rc at *
  have HRS := Lib.hid hRS; clear hRS
  generalize hP : posAt s.data.toList = P at *
  clear hP
  generalize posL s.data.toList = pl at *
  generalize nR s.data.toList = m at *
  go_enter Tryz.func68, Tryz.ntmps68
  go_wp2_with fail
  refine (refRunes_any s _ (by omega)).mono ?_
  rintro e w1 ⟨v1, v2, rfl, o1, o2, b1⟩
  obtain ⟨ao2, cp2, rfl⟩ := own_slice o2
  rw [HRL.out] at o1 o2 ⊢
  rw [HRS.out] at o1
  have HB1 := Lib.hid b1
  have HO2 := Lib.hid o2
  have HO1 := Lib.hid o1
  have hz1' := b1.size
  have hoa := o1.alloc (.cells #[.int .i64 (s.size : Int)] 3)
  clear o1 o2 b1
  go_wp2_with (at_builtin; refine wpList_append_own _ rfl (.tmp 18) (.tmp 21) 44 rfl w.heap.size 3 i0 (.int .i64 0) 1 8 Tryz.underlying44 hi hz0 hz1 hz2 rfl (by decide) _ m rc rfl hoa ⟨w1.heap.size, 0, none⟩ 1 1 [.int .i64 (s.size : Int)] rfl rfl ?c1 ?c2 ?c3 ?c4 ?c5 ?_)
  case c1 => exact cell_one_new _ _ _
  case c2 => intro u hu; simp at hu; subst hu; rfl
  case c3 => unfold maxLen; omega
  case c4 => omega
  case c5 => simp; omega
  intro v1' w2 o1' g1 _
  have HB2 := Lib.hid ((HB1.out.alloc HB1.out.size (.cells #[.int .i64 (s.size : Int)] 3)).grown g1 (by simp; omega) (fun r e => (HO1.out.lt r e).1))
  have HO3 := Lib.hid ((HO2.out.alloc (.cells #[.int .i64 (s.size : Int)] 3)).kept g1 (own_own_ne (HO2.out.alloc _) hoa (by decide)))
  rw [HPC.out] at o1'
  obtain ⟨g, cap, cur, rfl, hg1, hg2, hc1, hc2, hcell⟩ := ints_blk o1' (by omega)
  have HG := Lib.hid hg2; have HCE := Lib.hid hcell
  have hglt := hg2.lt
  have hz2' := HB2.out.size
  unfold maxLen at hc2
  clear o1' g1 hoa hg2 hcell HO1 HO2 HB1 hi hz0 hz1 hz2
  go_wp2_with fail
  go_loop [9, 10] (fun o i => o = .slice none 0 0 ∧ i = .int .i64 0) (fun _ _ => 0)
  case atStart => exact ⟨rfl, rfl⟩
  case round =>
    obtain ⟨rfl, rfl⟩ := hrel
    by_cases hq : m = 3
    · subst hq
      go_wp2_with fail
      go_ret
      exact strRow_one _ HB2.out rfl rfl
    · have hq1 : m < 3 := by omega
      go_wp2_with fail
      go_ret
      exact strRow_one _ HB2.out rfl rfl

set_option maxRecDepth 100000 in
set_option maxHeartbeats 2000000 in
theorem one_13_many (s : ByteArray) (w : World) (hs : s.size ≤ 1048576) (hn : ¬ nR s.data.toList ≤ 3) :
    Calls Tryz.prog 68 #[.int .i64 13, .string s] w (StrRow ((List.range (nR s.data.toList + 1 - 3)).map fun i => s.extract (posAt s.data.toList i) (posAt s.data.toList (i + 3))) w) := by
  obtain ⟨i0, hi, hz0, hz1, hz2⟩ := info_parts infoInt
  have hnr := nR_le s.data.toList
  have hlen : s.data.toList.length = s.size := by simp
  rw [hlen] at hnr
  have HPC := Lib.hid (pos_cells s)
  have HRL : Hid ((runesL s.data.toList).length = nR s.data.toList) := Lib.hid rfl
  have HPG : Hid (∀ i, i ≤ nR s.data.toList → (posL s.data.toList)[i]? = some (posAt s.data.toList i)) := Lib.hid (fun i h => posAt_get _ i h)
  have HPM : Hid (∀ i, i + 3 ≤ nR s.data.toList → posAt s.data.toList i ≤ posAt s.data.toList (i + 3) ∧ posAt s.data.toList (i + 3) ≤ s.size) := Lib.hid (fun i h => ⟨posAt_mono _ _ _ (by omega) h, by rw [← hlen]; exact posAt_le _ _⟩)
  obtain ⟨j0, hj, hy0, hy1, hy2⟩ := info_parts infoStr
  have HJ1 := Lib.hid hj; have HJ2 := Lib.hid hy0; have HJ3 := Lib.hid hy1; have HJ4 := Lib.hid hy2
  obtain ⟨G, hG⟩ : ∃ G : Nat → ByteArray, (fun i => s.extract (posAt s.data.toList i) (posAt s.data.toList (i + 3))) = G := ⟨_, rfl⟩
  rw [hG]
  have HGE : Hid (∀ i, G i = s.extract (posAt s.data.toList i) (posAt s.data.toList (i + 3))) := Lib.hid (fun i => (congrFun hG i).symm)
  clear hlen hj hy0 hy1 hy2 hG
  generalize hRS : (runesL s.data.toList).map cellP = rc at *
  have HRS := Lib.hid hRS; clear hRS
  generalize hP : posAt s.data.toList = P at *
  clear hP
  generalize posL s.data.toList = pl at *
  generalize nR s.data.toList = m at *
  go_enter Tryz.func68, Tryz.ntmps68
  go_wp2_with fail
  refine (refRunes_any s _ (by omega)).mono ?_
  rintro e w1 ⟨v1, v2, rfl, o1, o2, b1⟩
  obtain ⟨ao2, cp2, rfl⟩ := own_slice o2
  rw [HRL.out] at o1 o2 ⊢
  rw [HRS.out] at o1
  have HB1 := Lib.hid b1
  have HO2 := Lib.hid o2
  have HO1 := Lib.hid o1
  have hz1' := b1.size
  have hoa := o1.alloc (.cells #[.int .i64 (s.size : Int)] 3)
  clear o1 o2 b1
  go_wp2_with (at_builtin; refine wpList_append_own _ rfl (.tmp 18) (.tmp 21) 44 rfl w.heap.size 3 i0 (.int .i64 0) 1 8 Tryz.underlying44 hi hz0 hz1 hz2 rfl (by decide) _ m rc rfl hoa ⟨w1.heap.size, 0, none⟩ 1 1 [.int .i64 (s.size : Int)] rfl rfl ?c1 ?c2 ?c3 ?c4 ?c5 ?_)
  case c1 => exact cell_one_new _ _ _
  case c2 => intro u hu; simp at hu; subst hu; rfl
  case c3 => unfold maxLen; omega
  case c4 => omega
  case c5 => simp; omega
  intro v1' w2 o1' g1 _
  have HB2 := Lib.hid ((HB1.out.alloc HB1.out.size (.cells #[.int .i64 (s.size : Int)] 3)).grown g1 (by simp; omega) (fun r e => (HO1.out.lt r e).1))
  have HO3 := Lib.hid ((HO2.out.alloc (.cells #[.int .i64 (s.size : Int)] 3)).kept g1 (own_own_ne (HO2.out.alloc _) hoa (by decide)))
  rw [HPC.out] at o1'
  obtain ⟨g, cap, cur, rfl, hg1, hg2, hc1, hc2, hcell⟩ := ints_blk o1' (by omega)
  have HG := Lib.hid hg2; have HCE := Lib.hid hcell
  have hglt := hg2.lt
  have hz2' := HB2.out.size
  unfold maxLen at hc2
  clear o1' g1 hoa hg2 hcell HO1 HO2 HB1 hi hz0 hz1 hz2
  have hbad : ¬ m < 3 := by omega
  go_wp2_with fail
  go_loopw [9, 10] (fun o i wr => ∃ j : Nat, j ≤ m + 1 - 3 ∧ i = .int .i64 j ∧ Hid (wr.ownsRow w2.heap.size 9 1 o j (((List.range j).map G).map Value.string)) ∧ Hid (Below w2.heap.size w2 wr)) (fun _ i _ => m + 1 - 3 - (RowKit.intOf i).toNat)
  case atStart => exact ⟨0, by omega, rfl, Lib.hid (World.ownsRow_nil _ _ _ _), Lib.hid (Below.refl _ _)⟩
  case round =>
    obtain ⟨j, hj, rfl, HO, HW⟩ := hrel
    have hzr := HW.out.size
    by_cases hlt : j < m + 1 - 3
    · obtain ⟨hpm1, hpm2⟩ := HPM.out j (by omega)
      have hx1 : (j : Int) < (m : Int) + 1 := by omega
      have hx2 : (j : Int) + 3 < (m : Int) + 1 := by omega
      have hx3 : (P j : Int) ≤ (P (j + 3) : Int) := by omega
      have hx4 : (P (j + 3) : Int) ≤ (s.size : Int) := by omega
      have SF : Hid (∀ W, Below w2.heap.size w2 W → W.cell? ⟨g, j, none⟩ = some (.int .i64 (P j : Int)) ∧ W.cell? ⟨g, j + 3, none⟩ = some (.int .i64 (P (j + 3) : Int))) := Lib.hid (fun W h => ⟨((HG.out.below h hglt).cell j).trans (HCE.out j _ (HPG.out j (by omega))), ((HG.out.below h hglt).cell (j + 3)).trans (HCE.out (j + 3) _ (HPG.out (j + 3) (by omega)))⟩)
      have hD : Below w2.heap.size w2 wr.drew := HW.out.drew
      have HO2 : Hid (wr.drew.ownsRow w2.heap.size 9 1 u9 j (((List.range j).map G).map Value.string)) := HO
      go_upto_region 17 with fail
      have hw3 : ((j : Int) + 3).toNat = j + 3 := by omega
      have hw2 : 0 ≤ (j : Int) + 3 := by omega
      have hw1 : IntKind.i64.wrap ((j : Int) + 3) = (j : Int) + 3 := IntWalk.i64_in _ (by omega)
      refine wp_region_held_drew (S := fun W => Below w2.heap.size w2 W) (by kernel_rfl) hD (fun hS0 => ?_)
      generalize wr.drew = W at *
      refine' wpAnyH_take (i := 0) (v := _) (by simp only [List.getElem?_toArray, List.getElem?_cons_zero]; rfl) (by kernel_rfl) (by kernel_rfl) (by kernel_rfl) (by exact fun _ _ _ h => h) (Or.inl ⟨by rfl, ?hy0⟩) hS0 ?rest0
      case hy0 => intro V hSw; clear hSw; go_simp; try with_reducible rfl
      try simp only [Act.put, List.setIfInBounds_toArray, List.set_cons_zero, List.set_cons_succ]
      refine' wpAnyH_take (i := 1) (v := _) (by simp only [List.getElem?_toArray, List.getElem?_cons_succ, List.getElem?_cons_zero]; rfl) (by kernel_rfl) (by kernel_rfl) (by kernel_rfl) (by exact fun _ _ _ h => h) (Or.inl ⟨by rfl, ?hy1⟩) hS0 ?rest1
      case hy1 => intro V hSw; clear hSw; go_simp; try with_reducible rfl
      try simp only [Act.put, List.setIfInBounds_toArray, List.set_cons_zero, List.set_cons_succ]
      refine' wpAnyH_take (i := 2) (v := _) (by simp only [List.getElem?_toArray, List.getElem?_cons_succ, List.getElem?_cons_zero]; rfl) (by kernel_rfl) (by kernel_rfl) (by kernel_rfl) (by exact fun _ _ _ h => h) (Or.inl ⟨by rfl, ?hy2⟩) hS0 ?rest2
      case hy2 => intro V hSw; clear hSw; go_simp; try with_reducible rfl
      try simp only [Act.put, List.setIfInBounds_toArray, List.set_cons_zero, List.set_cons_succ]
      refine' wpAnyH_take (i := 3) (v := _) (by simp only [List.getElem?_toArray, List.getElem?_cons_succ, List.getElem?_cons_zero]; rfl) (by kernel_rfl) (by kernel_rfl) (by kernel_rfl) (by exact fun _ _ _ h => h) (Or.inl ⟨by rfl, ?hy3⟩) hS0 ?rest3
      case hy3 => intro V hSw; clear hSw; go_simp; try with_reducible rfl
      try simp only [Act.put, List.setIfInBounds_toArray, List.set_cons_zero, List.set_cons_succ]
      refine' wpAnyH_take (i := 4) (v := _) (by simp only [List.getElem?_toArray, List.getElem?_cons_succ, List.getElem?_cons_zero]; rfl) (by kernel_rfl) (by kernel_rfl) (by kernel_rfl) (by exact fun _ _ _ h => h) (Or.inl ⟨by rfl, ?hy4⟩) hS0 ?rest4
      case hy4 => intro V hSw; clear hSw; go_simp; try with_reducible rfl
      try simp only [Act.put, List.setIfInBounds_toArray, List.set_cons_zero, List.set_cons_succ]
      refine' wpAnyH_take (i := 5) (v := _) (by simp only [List.getElem?_toArray, List.getElem?_cons_succ, List.getElem?_cons_zero]; rfl) (by kernel_rfl) (by kernel_rfl) (by kernel_rfl) (by exact fun _ _ _ h => h) (Or.inl ⟨by rfl, ?hy5⟩) hS0 ?rest5
      case hy5 => intro V hSw; obtain ⟨f0, f1⟩ := SF.out V hSw; clear hSw; go_simp; try with_reducible rfl
      try simp only [Act.put, List.setIfInBounds_toArray, List.set_cons_zero, List.set_cons_succ]
      refine' wpAnyH_take (i := 6) (v := _) (by simp only [List.getElem?_toArray, List.getElem?_cons_succ, List.getElem?_cons_zero]; rfl) (by kernel_rfl) (by kernel_rfl) (by kernel_rfl) (by exact fun _ _ _ h => h) (Or.inl ⟨by rfl, ?hy6⟩) hS0 ?rest6
      case hy6 => intro V hSw; clear hSw; go_simp; try with_reducible rfl
      try simp only [Act.put, List.setIfInBounds_toArray, List.set_cons_zero, List.set_cons_succ]
      refine' wpAnyH_take (i := 7) (v := _) (by simp only [List.getElem?_toArray, List.getElem?_cons_succ, List.getElem?_cons_zero]; rfl) (by kernel_rfl) (by kernel_rfl) (by kernel_rfl) (by exact fun _ _ _ h => h) (Or.inl ⟨by rfl, ?hy7⟩) hS0 ?rest7
      case hy7 => intro V hSw; clear hSw; go_simp; try with_reducible rfl
      try simp only [Act.put, List.setIfInBounds_toArray, List.set_cons_zero, List.set_cons_succ]
      refine' wpAnyH_take (i := 8) (v := _) (by simp only [List.getElem?_toArray, List.getElem?_cons_succ, List.getElem?_cons_zero]; rfl) (by kernel_rfl) (by kernel_rfl) (by kernel_rfl) (by exact fun _ _ _ h => h) (Or.inl ⟨by rfl, ?hy8⟩) hS0 ?rest8
      case hy8 => intro V hSw; clear hSw; go_simp; try with_reducible rfl
      try simp only [Act.put, List.setIfInBounds_toArray, List.set_cons_zero, List.set_cons_succ]
      refine' wpAnyH_take (i := 9) (v := _) (by simp only [List.getElem?_toArray, List.getElem?_cons_succ, List.getElem?_cons_zero]; rfl) (by kernel_rfl) (by kernel_rfl) (by kernel_rfl) (by exact fun _ _ _ h => h) (Or.inl ⟨by rfl, ?hy9⟩) hS0 ?rest9
      case hy9 => intro V hSw; clear hSw; go_simp; try with_reducible rfl
      try simp only [Act.put, List.setIfInBounds_toArray, List.set_cons_zero, List.set_cons_succ]
      refine' wpAnyH_take (i := 10) (v := _) (by simp only [List.getElem?_toArray, List.getElem?_cons_succ, List.getElem?_cons_zero]; rfl) (by kernel_rfl) (by kernel_rfl) (by kernel_rfl) (by exact fun _ _ _ h => h) (Or.inl ⟨by rfl, ?hy10⟩) hS0 ?rest10
      case hy10 => intro V hSw; clear hSw; go_simp; try with_reducible rfl
      try simp only [Act.put, List.setIfInBounds_toArray, List.set_cons_zero, List.set_cons_succ]
      refine' wpAnyH_take (i := 11) (v := _) (by simp only [List.getElem?_toArray, List.getElem?_cons_succ, List.getElem?_cons_zero]; rfl) (by kernel_rfl) (by kernel_rfl) (by kernel_rfl) (by exact fun _ _ _ h => h) (Or.inl ⟨by rfl, ?hy11⟩) hS0 ?rest11
      case hy11 => intro V hSw; obtain ⟨f0, f1⟩ := SF.out V hSw; clear hSw; go_simp; try with_reducible rfl
      try simp only [Act.put, List.setIfInBounds_toArray, List.set_cons_zero, List.set_cons_succ]
      refine' wpAnyH_take (i := 12) (v := _) (by simp only [List.getElem?_toArray, List.getElem?_cons_succ, List.getElem?_cons_zero]; rfl) (by kernel_rfl) (by kernel_rfl) (by kernel_rfl) (by exact fun _ _ _ h => h) (Or.inl ⟨by rfl, ?hy12⟩) hS0 ?rest12
      case hy12 => intro V hSw; clear hSw; go_simp; try with_reducible rfl
      try simp only [Act.put, List.setIfInBounds_toArray, List.set_cons_zero, List.set_cons_succ]
      refine wpAnyH_ready (rs := [13]) (by kernel_rfl) (by simp) ?_
      refine' AllReadyH.cons (by simp only [List.getElem?_toArray, List.getElem?_cons_succ, List.getElem?_cons_zero]; rfl) (fun K hK => ?_) AllReadyH.nil
      go_simp
      refine hK.out _ _ (hS0.alloc hS0.size _) (fun hS1 => ?_)
      try simp only [Act.put, List.setIfInBounds_toArray, List.set_cons_zero, List.set_cons_succ]
      clear hw1 hw2 hw3
      have hzW := hS0.size
      have hoW := HO2.out
      have hj1 := HJ1.out; have hj2 := HJ2.out; have hj3 := HJ3.out; have hj4 := HJ4.out
      refine wpAnyH_ready (rs := [14]) (by kernel_rfl) (by simp) ?_
      refine' AllReadyH.cons (by simp only [List.getElem?_toArray, List.getElem?_cons_succ, List.getElem?_cons_zero]; rfl) (fun K hK => ?_) AllReadyH.nil
      refine step_append_any _ rfl (.tmp 52) (.tmp 65) 32 rfl w2.heap.size 9 j0 (.string ⟨#[]⟩) 1 16 Tryz.underlying32 hj1 hj2 hj3 hj4 rfl (by decide) u9 j (((List.range j).map G).map Value.string) rfl (hoW.alloc _) (W.heap.size + 1) (some ⟨W.heap.size, 0, none⟩) 1 1 [.string (s.extract (P j) (P (j + 3)))] rfl ?d1 ?d2 ?d3 ?d4 ?d5 ?_
      case d1 => exact ⟨rfl, fun _ => ⟨_, rfl, Nat.lt_succ_self _, cell_one_new _ _ _⟩⟩
      case d2 => intro u hu; simp at hu; subst hu; rfl
      case d3 => unfold maxLen; omega
      case d4 => omega
      case d5 => simp; omega
      intro v' w4 ho4 hg4 _
      have hb4 : Below w2.heap.size w2 w4 := (hS0.alloc hzW _).grown hg4 (by simp; omega) (fun r e => (hoW.lt r e).1)
      have HO4 : Hid (w4.ownsRow w2.heap.size 9 1 v' (j + 1) (((List.range (j + 1)).map G).map Value.string)) := Lib.hid (by rw [List.range_succ, List.map_append, List.map_append, List.map_cons, List.map_nil, List.map_cons, List.map_nil, HGE.out]; simpa using ho4)
      have HB4 := Lib.hid hb4
      refine hK.out _ _ hb4 (fun hS2 => ?_)
      try simp only [Act.put, List.setIfInBounds_toArray, List.set_cons_zero, List.set_cons_succ]
      refine' wpAnyH_take (i := 15) (v := _) (by simp only [List.getElem?_toArray, List.getElem?_cons_succ, List.getElem?_cons_zero]; rfl) (by kernel_rfl) (by kernel_rfl) (by kernel_rfl) (by exact fun _ _ _ h => h) (Or.inl ⟨by rfl, ?hy15⟩) hS2 ?rest15
      case hy15 => intro V hSw; clear hSw; go_simp; try with_reducible rfl
      try simp only [Act.put, List.setIfInBounds_toArray, List.set_cons_zero, List.set_cons_succ]
      refine wpAnyH_done (by kernel_rfl) ?_ _
      clear hoW ho4 hg4 hb4 hj1 hj2 hj3 hj4
      go_wp2_with fail
      go_roundw
      case rel => exact ⟨j + 1, by omega, by go_num, HO4, HB4⟩
      case measure => simp [RowKit.intOf]; omega
    · obtain rfl : j = m + 1 - 3 := by omega
      obtain ⟨ao, cp, rfl⟩ := own_slice HO.out
      have HOW := Lib.hid (Reads.of_own HO.out)
      have HFR := Lib.hid (fun ad e => Nat.le_trans HB2.out.size (own_fresh HO.out ad e))
      have HB : Hid (Below w.heap.size w wr) := Lib.hid (HB2.out.trans (HW.out.mono HB2.out.size))
      go_wp2_with fail
      go_ret
      refine ⟨ao, cp, by simp, ?_, HB.out, HFR.out⟩
      have := HOW.out
      simpa using this

theorem one_13 (s : ByteArray) (w : World) (hs : s.size ≤ 1048576) : Calls Tryz.prog 68 #[.int .i64 13, .string s] w (StrRow (oneF 13 s) w) := by
  have e : oneF 13 s = gramsF 3 s := rfl
  rw [e]
  unfold gramsF
  by_cases h : nR s.data.toList ≤ 3
  · rw [if_pos h]; exact one_13_few s w hs h
  · rw [if_neg h]; exact one_13_many s w hs h

end Go.Proofs.YtinmiekbhoemjaaGreatDoor.Ana
