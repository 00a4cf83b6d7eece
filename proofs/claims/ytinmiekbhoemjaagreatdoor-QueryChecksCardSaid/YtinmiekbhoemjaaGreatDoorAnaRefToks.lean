/- Contract: the document's tokens. -/
import Derived.Test.YtinmiekbhoemjaaGreatDoorAnaToks4
import Derived.Test.YtinmiekbhoemjaaGreatDoorPack32
set_option linter.unusedVariables false
namespace Go.Proofs.YtinmiekbhoemjaaGreatDoor.Ana
open Go.RowKit Go.Lib FoldP FoldInts Kit FoldForms FoldNext AnaP Words Owned Tree
open FoldRefRunes (refRunes_any cellP cellR)

/-- A row that holds an element: where it lies and what it holds. -/
theorem own_blk {w : World} {B n m : Nat} {e : TypeId} {v : Value} {xs : List Value} (h : w.ownsRow B e m v n xs) (hn : 0 < n) : ∃ g cap cur, v = .slice (some ⟨g, 0, none⟩) n cap ∧ Blk w g e cur ∧ n ≤ cap ∧ cap ≤ maxLen ∧ ∀ (i : Nat) (u : Value), xs[i]? = some u → cur[i]? = some u := by
  rcases h.2 with ⟨_, h0⟩ | ⟨g, cap, cur, rfl, hb, hg, hc, hm, hs, ht⟩
  · omega
  · refine ⟨g, cap, cur, rfl, hg, hc, hm, fun i u hu => ?_⟩
    rw [← ht, List.getElem?_take] at hu
    split at hu
    · rw [← Array.getElem?_toList]; exact hu
    · cases hu
theorem pair_get {l : List (Nat × Nat)} {k : Nat} (h : k < l.length) : (pairCells l)[k * 2]? = some (.int .i64 (l[k].1 : Int)) ∧ (pairCells l)[k * 2 + 1]? = some (.int .i64 (l[k].2 : Int)) := by
  have e : l = l.take k ++ l[k] :: l.drop (k + 1) := by rw [← List.drop_eq_getElem_cons h, List.take_append_drop]
  have hl : (pairCells (l.take k)).length = k * 2 := by
    unfold pairCells
    rw [flat_len pairC_len, List.length_take, Nat.min_eq_left (Nat.le_of_lt h)]
  generalize l[k] = c at *
  have e2 : pairCells l = pairCells (l.take k) ++ (pairC c ++ pairCells (l.drop (k + 1))) := by
    conv => lhs; rw [e]
    rw [pairCells_append]; rfl
  rw [e2]
  constructor
  · rw [List.getElem?_append_right (by omega), hl, Nat.sub_self]; rfl
  · rw [List.getElem?_append_right (by omega), hl, show k * 2 + 1 - k * 2 = 1 by omega]; rfl
theorem pair_cells {w : World} {g : Nat} {cur : Array Value} {l : List (Nat × Nat)} (h : Blk w g 114 cur) (hc : ∀ (i : Nat) (u : Value), (pairCells l)[i]? = some u → cur[i]? = some u) {k : Nat} (hk : k < l.length) : w.cell? ⟨g, k * 2, none⟩ = some (.int .i64 (l[k].1 : Int)) ∧ w.cell? ⟨g, k * 2 + 1, none⟩ = some (.int .i64 (l[k].2 : Int)) :=
  ⟨(h.cell _).trans (hc _ _ (pair_get hk).1), (h.cell _).trans (hc _ _ (pair_get hk).2)⟩
theorem cellR_runes (l : List UInt8) : (runesL l).map cellR = runeCells (runeL l) := by
  unfold runeCells runeL; rw [List.map_map]; rfl
theorem cellP_pos (s : ByteArray) : (runesL s.data.toList).map cellP ++ [.int .i64 (s.size : Int)] = (posL s.data.toList).map cellN := by
  unfold posL posFrom
  rw [List.drop_zero, List.map_append, List.map_map, List.map_cons, List.map_nil, show runesFrom 0 s.data.toList = runesL s.data.toList from rfl, show s.data.toList.length = s.size by simp]; rfl
theorem take_toks (s : ByteArray) (cuts : List (Nat × Nat)) (j : Nat) (h : j < cuts.length) : tokOf s (cuts.take (j + 1)) = tokOf s (cuts.take j) ++ [tokAt s j cuts[j]] := by
  rw [List.take_succ_eq_append_getElem h, tokOf_snoc, List.length_take, Nat.min_eq_left (Nat.le_of_lt h)]

set_option maxRecDepth 100000 in
set_option maxHeartbeats 8000000 in
theorem refToks_1 (s : ByteArray) (w : World) (hs : s.size ≤ 1073741824) :
    Calls Tryz.prog 56 #[.int .i64 1, .string s] w (OwnToks (tokensF 1 s) w) := by
  obtain ⟨i0, hi, hz0, hz1, hz2⟩ := info_parts infoInt
  obtain ⟨j0, kj, kz0, kz1, kz2⟩ := info_parts infoPair
  obtain ⟨t0, tj, tz0, tz1, tz2⟩ := info_parts infoTok
  have HJ1 := Lib.hid kj; have HJ2 := Lib.hid kz0; have HJ3 := Lib.hid kz1; have HJ4 := Lib.hid kz2
  have HT1 := Lib.hid tj; have HT2 := Lib.hid tz0; have HT3 := Lib.hid tz1; have HT4 := Lib.hid tz2
  have hnr := nR_le s.data.toList
  have hlen : s.data.toList.length = s.size := by simp
  rw [hlen] at hnr
  have HCL := Lib.hid (cutF_len 1 (runeL s.data.toList))
  have HCO := Lib.hid (cutF_ok 1 (runeL s.data.toList))
  have HRL := Lib.hid (runeL_len s.data.toList)
  have HPC := Lib.hid (cellP_pos s)
  have HCR := Lib.hid (cellR_runes s.data.toList)
  have HPL := Lib.hid (posL_len s.data.toList)
  have HPG : Hid (∀ i, i ≤ nR s.data.toList → (posL s.data.toList)[i]? = some (posAt s.data.toList i)) := Lib.hid (posAt_get s.data.toList)
  have HTE : Hid (tokensF 1 s = tokOf s (cutF 1 (runeL s.data.toList))) := Lib.hid rfl
  have HNR : Hid ((runesL s.data.toList).length = nR s.data.toList) := Lib.hid rfl
  rw [HTE.out]
  rw [HRL.out] at HCL HCO
  clear kj kz0 kz1 kz2 tj tz0 tz1 tz2 hlen HTE
  go_enter Tryz.func56, Tryz.ntmps56
  go_wp2_with fail
  refine (refRunes_any s _ (by omega)).mono ?_
  rintro e wa ⟨v1, v2, rfl, o1, o2, b1⟩
  rw [HCR.out] at o2
  rw [HNR.out] at o1 o2
  obtain ⟨ao2, cp2, rfl⟩ := own_slice2 o2
  have HRB : Hid (∀ ad, ao2 = some ad → v1.ownBlock ≠ some ad.block) := Lib.hid (fun ad e => by
    subst e
    have h3 := own_own_ne o2 o1 (by decide)
    rcases h3 with h3 | h3
    · cases h3
    · exact fun h4 => h3 (by rw [h4]; rfl))
  have HR2 : Hid (Reads wa wa.heap.size 1 ao2 (nR s.data.toList) (runeCells (runeL s.data.toList))) := Lib.hid (Reads.of_own o2)
  have HO1 := Lib.hid o1
  have HB1 := Lib.hid b1
  have hzb1 := b1.size
  have hoa := o1.alloc (.cells #[.int .i64 (s.size : Int)] 3)
  clear o1 o2 b1
  go_wp2_with (at_builtin; refine wpList_append_own _ rfl (.tmp 20) (.tmp 23) 44 rfl w.heap.size 3 i0 (.int .i64 0) 1 8 Tryz.underlying44 hi hz0 hz1 hz2 rfl (by decide) _ _ _ rfl hoa ⟨wa.heap.size, 0, none⟩ 1 1 [.int .i64 (s.size : Int)] rfl rfl ?c1 ?c2 ?c3 ?c4 ?c5 ?_)
  case c1 => exact cell_one_new _ _ _
  case c2 => intro u hu; simp at hu; subst hu; rfl
  case c3 => unfold maxLen; omega
  case c4 => omega
  case c5 => simp; omega
  intro v1' wb o1' g1 _
  have HB2 := Lib.hid ((HB1.out.alloc HB1.out.size (.cells #[.int .i64 (s.size : Int)] 3)).grown g1 (by simp; omega) (fun r e => (HO1.out.lt r e).1))
  have HRR : Hid (Reads wb wb.heap.size 1 ao2 (nR s.data.toList) (runeCells (runeL s.data.toList))) := Lib.hid (by
    have h1 := HR2.out
    refine ⟨h1.1, fun hn => ?_⟩
    obtain ⟨ad, rfl, hb, hc⟩ := h1.2 hn
    have hz := g1.size
    refine ⟨ad, rfl, by simp at hz; omega, fun j u hu => ?_⟩
    have h2 := HRB.out ad rfl
    exact (World.cell?_of_block (by
      rw [block_of_add]
      exact (g1.block ad.block (by simp; omega) (fun e => h2 e.symm)).trans (Below.heap_alloc _ _ _ hb))).trans (hc j u hu))
  rw [HPC.out] at o1'
  obtain ⟨g, cap, cur, rfl, hbg, hc1, hc2, hcell⟩ := own_blk o1' (by omega)
  have HCE : Hid (∀ i, i ≤ nR s.data.toList → cur[i]? = some (.int .i64 (posAt s.data.toList i : Int))) := Lib.hid (fun i h => hcell i _ (by rw [List.getElem?_map, HPG.out i h]; rfl))
  have HG := Lib.hid hbg
  have hglt := hbg.lt
  unfold maxLen at hc2
  clear o1' g1 hoa hcell hbg HR2 HO1 HB1 HPG HPL hi hz0 hz1 hz2 hzb1 HRB
  have HCF : Hid (cutF 1 (runeL s.data.toList) = runIx mayF wordF (runeL s.data.toList) 0 none) := Lib.hid (rfl)
  have HRU := Lib.hid (fun cp W hW => refRuns_1 ao2 cp (runeL s.data.toList) W (by rw [HRL.out]; omega) hW)
  rw [HRL.out] at HRU
  rw [← HCF.out] at HRU
  clear HCF
  generalize cutF 1 (runeL s.data.toList) = C at *
  go_wp2_with fail
  refine (HRU.out _ _ HRR.out).mono ?_
  rintro e ws ⟨v, rfl, oc, bc⟩
  obtain ⟨aoc, cpc, rfl⟩ := own_slice2 oc
  have HOC := Lib.hid oc
  have HBS := Lib.hid (HB2.out.trans (bc.mono HB2.out.size))
  have HGS := Lib.hid (HG.out.below bc HG.out.lt)
  have hzs := HBS.out.size
  have hcl := HCL.out
  clear oc bc HRR HRU HG
  have Hws : Hid (Below w.heap.size w ws) := HBS
  go_wp2_with fail
  go_loopw [11, 12, 13, 14] (fun o i _ _ wq => ∃ j : Nat, j ≤ C.length ∧ i = .int .i64 j ∧ Hid (wq.ownsRow ws.heap.size 117 4 o (tokOf s (C.take j)).length (tokCells (tokOf s (C.take j)))) ∧ Hid (Below ws.heap.size ws wq)) (fun _ i _ _ _ => C.length - (RowKit.intOf i).toNat)
  case atStart => exact ⟨0, by omega, rfl, Lib.hid (World.ownsRow_nil _ _ _ _), Lib.hid (Below.refl _ _)⟩
  case round =>
    obtain ⟨j, hj, rfl, HO, HW⟩ := hrel
    have hzr := HW.out.size
    by_cases hlt : j < C.length
    · obtain ⟨gc, capc, curc, hveq, hbc, _, _, hcc⟩ := own_blk HOC.out (by omega)
      simp only [Value.slice.injEq, true_and] at hveq
      obtain ⟨rfl, rfl⟩ := hveq
      obtain ⟨q0, q1⟩ := pair_cells (hbc.below HW.out hbc.lt) hcc hlt
      obtain ⟨hab1, hab2⟩ := HCO.out.1 C[j] (List.getElem_mem hlt)
      have HTK := Lib.hid (take_toks s C j hlt)
      have htl : (tokOf s (C.take j)).length = j := by rw [tokOf_len, List.length_take]; omega
      have HTL := Lib.hid htl; clear htl hcc hbc
      generalize C[j] = c at *
      obtain ⟨a, b⟩ := c
      dsimp only at q0 q1 hab1 hab2
      have p0 : wr.cell? ⟨g, a, none⟩ = some (.int .i64 (posAt s.data.toList a : Int)) := ((HGS.out.below HW.out HGS.out.lt).cell a).trans (HCE.out a (by omega))
      have p1 : wr.cell? ⟨g, b, none⟩ = some (.int .i64 (posAt s.data.toList b : Int)) := ((HGS.out.below HW.out HGS.out.lt).cell b).trans (HCE.out b hab2)
      have hx1 : (a : Int) < (nR s.data.toList : Int) + 1 := by omega
      have hx2 : (b : Int) < (nR s.data.toList : Int) + 1 := by omega
      have hpm := posAt_mono s.data.toList a b (by omega) hab2
      have hpe := posAt_le s.data.toList b
      rw [show s.data.toList.length = s.size by simp] at hpe
      have hx3 : (posAt s.data.toList a : Int) ≤ (posAt s.data.toList b : Int) := by omega
      have hx4 : (posAt s.data.toList b : Int) ≤ (s.size : Int) := by omega
      have ho := HO.out
      rw [HTL.out] at ho
      have hi := HT1.out; have hz0 := HT2.out; have hz1 := HT3.out; have hz2 := HT4.out
      go_wp2_with (at_builtin; refine wpList_append_own _ rfl (.tmp 113) (.tmp 122) 83 rfl ws.heap.size 117 t0 (.agg #[.string ⟨#[]⟩, .int .i64 0, .int .i64 0, .int .i64 0]) 4 40 Tryz.underlying83 hi hz0 hz1 hz2 rfl (by decide) _ j (tokCells (tokOf s (C.take j))) rfl (ho.alloc _) ⟨wr.heap.size, 0, none⟩ 1 1 [.string (s.extract (posAt s.data.toList a) (posAt s.data.toList b)), .int .i64 (j : Int), .int .i64 (posAt s.data.toList a : Int), .int .i64 (posAt s.data.toList b : Int)] rfl rfl ?d1 ?d2 ?d3 ?d4 ?d5 ?_)
      case d1 => intro q u hu; exact cells_new wr [.string (s.extract (posAt s.data.toList a) (posAt s.data.toList b)), .int .i64 (j : Int), .int .i64 (posAt s.data.toList a : Int), .int .i64 (posAt s.data.toList b : Int)] _ q u hu
      case d2 => intro u hu; exact tok_one (ts := [tokAt s j (a, b)]) hu
      case d3 => unfold maxLen; omega
      case d4 => omega
      case d5 => simp; omega
      intro v' w4 ho4 hg4 _
      have hb4 : Below ws.heap.size ws w4 := (HW.out.alloc hzr _).grown hg4 (by simp; omega) (fun r e => (ho.lt r e).1)
      have HO4 : Hid (w4.ownsRow ws.heap.size 117 4 v' (tokOf s (C.take (j + 1))).length (tokCells (tokOf s (C.take (j + 1))))) := Lib.hid (by rw [HTK.out, tokCells_append, List.length_append, HTL.out]; exact ho4)
      have HB4 := Lib.hid hb4
      clear ho ho4 hg4 hb4 hi hz0 hz1 hz2 p0 p1 q0 q1
      go_wp2_with fail
      go_roundw
      case rel => exact ⟨j + 1, by omega, by go_num, HO4, HB4⟩
      case measure => simp [RowKit.intOf]; omega
    · obtain rfl : j = C.length := by omega
      have HOF : Hid (wr.ownsRow ws.heap.size 117 4 u11 (tokOf s C).length (tokCells (tokOf s C))) := Lib.hid (by have := HO.out; rwa [List.take_of_length_le (Nat.le_refl _)] at this)
      go_wp2_with fail
      go_ret
      exact ⟨_, rfl, own_base HOF.out Hws.out.size, Hws.out.trans (HW.out.mono Hws.out.size)⟩

theorem solid_any2 (l : List Int) : runIx solidF solidF l 0 none = runIx solidF anyF l 0 none := by
  have h : ∀ (l : List Int) (j : Nat) (fr : Option Nat), runIx solidF solidF l j fr = runIx solidF anyF l j fr := by
    intro l
    induction l with
    | nil => intro j fr; cases fr <;> rfl
    | cons r l ih =>
      intro j fr
      cases fr with
      | none => simp only [runIx, ih, Bool.and_self, anyF, Bool.and_true]
      | some a => simp only [runIx, ih]
  exact h l 0 none

set_option maxRecDepth 100000 in
set_option maxHeartbeats 8000000 in
theorem refToks_2 (s : ByteArray) (w : World) (hs : s.size ≤ 1073741824) :
    Calls Tryz.prog 56 #[.int .i64 2, .string s] w (OwnToks (tokensF 2 s) w) := by
  obtain ⟨i0, hi, hz0, hz1, hz2⟩ := info_parts infoInt
  obtain ⟨j0, kj, kz0, kz1, kz2⟩ := info_parts infoPair
  obtain ⟨t0, tj, tz0, tz1, tz2⟩ := info_parts infoTok
  have HJ1 := Lib.hid kj; have HJ2 := Lib.hid kz0; have HJ3 := Lib.hid kz1; have HJ4 := Lib.hid kz2
  have HT1 := Lib.hid tj; have HT2 := Lib.hid tz0; have HT3 := Lib.hid tz1; have HT4 := Lib.hid tz2
  have hnr := nR_le s.data.toList
  have hlen : s.data.toList.length = s.size := by simp
  rw [hlen] at hnr
  have HCL := Lib.hid (cutF_len 2 (runeL s.data.toList))
  have HCO := Lib.hid (cutF_ok 2 (runeL s.data.toList))
  have HRL := Lib.hid (runeL_len s.data.toList)
  have HPC := Lib.hid (cellP_pos s)
  have HCR := Lib.hid (cellR_runes s.data.toList)
  have HPL := Lib.hid (posL_len s.data.toList)
  have HPG : Hid (∀ i, i ≤ nR s.data.toList → (posL s.data.toList)[i]? = some (posAt s.data.toList i)) := Lib.hid (posAt_get s.data.toList)
  have HTE : Hid (tokensF 2 s = tokOf s (cutF 2 (runeL s.data.toList))) := Lib.hid rfl
  have HNR : Hid ((runesL s.data.toList).length = nR s.data.toList) := Lib.hid rfl
  rw [HTE.out]
  rw [HRL.out] at HCL HCO
  clear kj kz0 kz1 kz2 tj tz0 tz1 tz2 hlen HTE
  go_enter Tryz.func56, Tryz.ntmps56
  go_wp2_with fail
  refine (refRunes_any s _ (by omega)).mono ?_
  rintro e wa ⟨v1, v2, rfl, o1, o2, b1⟩
  rw [HCR.out] at o2
  rw [HNR.out] at o1 o2
  obtain ⟨ao2, cp2, rfl⟩ := own_slice2 o2
  have HRB : Hid (∀ ad, ao2 = some ad → v1.ownBlock ≠ some ad.block) := Lib.hid (fun ad e => by
    subst e
    have h3 := own_own_ne o2 o1 (by decide)
    rcases h3 with h3 | h3
    · cases h3
    · exact fun h4 => h3 (by rw [h4]; rfl))
  have HR2 : Hid (Reads wa wa.heap.size 1 ao2 (nR s.data.toList) (runeCells (runeL s.data.toList))) := Lib.hid (Reads.of_own o2)
  have HO1 := Lib.hid o1
  have HB1 := Lib.hid b1
  have hzb1 := b1.size
  have hoa := o1.alloc (.cells #[.int .i64 (s.size : Int)] 3)
  clear o1 o2 b1
  go_wp2_with (at_builtin; refine wpList_append_own _ rfl (.tmp 20) (.tmp 23) 44 rfl w.heap.size 3 i0 (.int .i64 0) 1 8 Tryz.underlying44 hi hz0 hz1 hz2 rfl (by decide) _ _ _ rfl hoa ⟨wa.heap.size, 0, none⟩ 1 1 [.int .i64 (s.size : Int)] rfl rfl ?c1 ?c2 ?c3 ?c4 ?c5 ?_)
  case c1 => exact cell_one_new _ _ _
  case c2 => intro u hu; simp at hu; subst hu; rfl
  case c3 => unfold maxLen; omega
  case c4 => omega
  case c5 => simp; omega
  intro v1' wb o1' g1 _
  have HB2 := Lib.hid ((HB1.out.alloc HB1.out.size (.cells #[.int .i64 (s.size : Int)] 3)).grown g1 (by simp; omega) (fun r e => (HO1.out.lt r e).1))
  have HRR : Hid (Reads wb wb.heap.size 1 ao2 (nR s.data.toList) (runeCells (runeL s.data.toList))) := Lib.hid (by
    have h1 := HR2.out
    refine ⟨h1.1, fun hn => ?_⟩
    obtain ⟨ad, rfl, hb, hc⟩ := h1.2 hn
    have hz := g1.size
    refine ⟨ad, rfl, by simp at hz; omega, fun j u hu => ?_⟩
    have h2 := HRB.out ad rfl
    exact (World.cell?_of_block (by
      rw [block_of_add]
      exact (g1.block ad.block (by simp; omega) (fun e => h2 e.symm)).trans (Below.heap_alloc _ _ _ hb))).trans (hc j u hu))
  rw [HPC.out] at o1'
  obtain ⟨g, cap, cur, rfl, hbg, hc1, hc2, hcell⟩ := own_blk o1' (by omega)
  have HCE : Hid (∀ i, i ≤ nR s.data.toList → cur[i]? = some (.int .i64 (posAt s.data.toList i : Int))) := Lib.hid (fun i h => hcell i _ (by rw [List.getElem?_map, HPG.out i h]; rfl))
  have HG := Lib.hid hbg
  have hglt := hbg.lt
  unfold maxLen at hc2
  clear o1' g1 hoa hcell hbg HR2 HO1 HB1 HPG HPL hi hz0 hz1 hz2 hzb1 HRB
  have HCF : Hid (cutF 2 (runeL s.data.toList) = runIx solidF anyF (runeL s.data.toList) 0 none) := Lib.hid (solid_any2 _)
  have HRU := Lib.hid (fun cp W hW => refRuns_2 ao2 cp (runeL s.data.toList) W (by rw [HRL.out]; omega) hW)
  rw [HRL.out] at HRU
  rw [← HCF.out] at HRU
  clear HCF
  generalize cutF 2 (runeL s.data.toList) = C at *
  go_wp2_with fail
  refine (HRU.out _ _ HRR.out).mono ?_
  rintro e ws ⟨v, rfl, oc, bc⟩
  obtain ⟨aoc, cpc, rfl⟩ := own_slice2 oc
  have HOC := Lib.hid oc
  have HBS := Lib.hid (HB2.out.trans (bc.mono HB2.out.size))
  have HGS := Lib.hid (HG.out.below bc HG.out.lt)
  have hzs := HBS.out.size
  have hcl := HCL.out
  clear oc bc HRR HRU HG
  have Hws : Hid (Below w.heap.size w ws) := HBS
  go_wp2_with fail
  go_loopw [11, 12, 13, 14] (fun o i _ _ wq => ∃ j : Nat, j ≤ C.length ∧ i = .int .i64 j ∧ Hid (wq.ownsRow ws.heap.size 117 4 o (tokOf s (C.take j)).length (tokCells (tokOf s (C.take j)))) ∧ Hid (Below ws.heap.size ws wq)) (fun _ i _ _ _ => C.length - (RowKit.intOf i).toNat)
  case atStart => exact ⟨0, by omega, rfl, Lib.hid (World.ownsRow_nil _ _ _ _), Lib.hid (Below.refl _ _)⟩
  case round =>
    obtain ⟨j, hj, rfl, HO, HW⟩ := hrel
    have hzr := HW.out.size
    by_cases hlt : j < C.length
    · obtain ⟨gc, capc, curc, hveq, hbc, _, _, hcc⟩ := own_blk HOC.out (by omega)
      simp only [Value.slice.injEq, true_and] at hveq
      obtain ⟨rfl, rfl⟩ := hveq
      obtain ⟨q0, q1⟩ := pair_cells (hbc.below HW.out hbc.lt) hcc hlt
      obtain ⟨hab1, hab2⟩ := HCO.out.1 C[j] (List.getElem_mem hlt)
      have HTK := Lib.hid (take_toks s C j hlt)
      have htl : (tokOf s (C.take j)).length = j := by rw [tokOf_len, List.length_take]; omega
      have HTL := Lib.hid htl; clear htl hcc hbc
      generalize C[j] = c at *
      obtain ⟨a, b⟩ := c
      dsimp only at q0 q1 hab1 hab2
      have p0 : wr.cell? ⟨g, a, none⟩ = some (.int .i64 (posAt s.data.toList a : Int)) := ((HGS.out.below HW.out HGS.out.lt).cell a).trans (HCE.out a (by omega))
      have p1 : wr.cell? ⟨g, b, none⟩ = some (.int .i64 (posAt s.data.toList b : Int)) := ((HGS.out.below HW.out HGS.out.lt).cell b).trans (HCE.out b hab2)
      have hx1 : (a : Int) < (nR s.data.toList : Int) + 1 := by omega
      have hx2 : (b : Int) < (nR s.data.toList : Int) + 1 := by omega
      have hpm := posAt_mono s.data.toList a b (by omega) hab2
      have hpe := posAt_le s.data.toList b
      rw [show s.data.toList.length = s.size by simp] at hpe
      have hx3 : (posAt s.data.toList a : Int) ≤ (posAt s.data.toList b : Int) := by omega
      have hx4 : (posAt s.data.toList b : Int) ≤ (s.size : Int) := by omega
      have ho := HO.out
      rw [HTL.out] at ho
      have hi := HT1.out; have hz0 := HT2.out; have hz1 := HT3.out; have hz2 := HT4.out
      go_wp2_with (at_builtin; refine wpList_append_own _ rfl (.tmp 113) (.tmp 122) 83 rfl ws.heap.size 117 t0 (.agg #[.string ⟨#[]⟩, .int .i64 0, .int .i64 0, .int .i64 0]) 4 40 Tryz.underlying83 hi hz0 hz1 hz2 rfl (by decide) _ j (tokCells (tokOf s (C.take j))) rfl (ho.alloc _) ⟨wr.heap.size, 0, none⟩ 1 1 [.string (s.extract (posAt s.data.toList a) (posAt s.data.toList b)), .int .i64 (j : Int), .int .i64 (posAt s.data.toList a : Int), .int .i64 (posAt s.data.toList b : Int)] rfl rfl ?d1 ?d2 ?d3 ?d4 ?d5 ?_)
      case d1 => intro q u hu; exact cells_new wr [.string (s.extract (posAt s.data.toList a) (posAt s.data.toList b)), .int .i64 (j : Int), .int .i64 (posAt s.data.toList a : Int), .int .i64 (posAt s.data.toList b : Int)] _ q u hu
      case d2 => intro u hu; exact tok_one (ts := [tokAt s j (a, b)]) hu
      case d3 => unfold maxLen; omega
      case d4 => omega
      case d5 => simp; omega
      intro v' w4 ho4 hg4 _
      have hb4 : Below ws.heap.size ws w4 := (HW.out.alloc hzr _).grown hg4 (by simp; omega) (fun r e => (ho.lt r e).1)
      have HO4 : Hid (w4.ownsRow ws.heap.size 117 4 v' (tokOf s (C.take (j + 1))).length (tokCells (tokOf s (C.take (j + 1))))) := Lib.hid (by rw [HTK.out, tokCells_append, List.length_append, HTL.out]; exact ho4)
      have HB4 := Lib.hid hb4
      clear ho ho4 hg4 hb4 hi hz0 hz1 hz2 p0 p1 q0 q1
      go_wp2_with fail
      go_roundw
      case rel => exact ⟨j + 1, by omega, by go_num, HO4, HB4⟩
      case measure => simp [RowKit.intOf]; omega
    · obtain rfl : j = C.length := by omega
      have HOF : Hid (wr.ownsRow ws.heap.size 117 4 u11 (tokOf s C).length (tokCells (tokOf s C))) := Lib.hid (by have := HO.out; rwa [List.take_of_length_le (Nat.le_refl _)] at this)
      go_wp2_with fail
      go_ret
      exact ⟨_, rfl, own_base HOF.out Hws.out.size, Hws.out.trans (HW.out.mono Hws.out.size)⟩

set_option maxRecDepth 100000 in
set_option maxHeartbeats 8000000 in
theorem refToks_3 (s : ByteArray) (w : World) (hs : s.size ≤ 1073741824) :
    Calls Tryz.prog 56 #[.int .i64 3, .string s] w (OwnToks (tokensF 3 s) w) := by
  obtain ⟨i0, hi, hz0, hz1, hz2⟩ := info_parts infoInt
  obtain ⟨j0, kj, kz0, kz1, kz2⟩ := info_parts infoPair
  obtain ⟨t0, tj, tz0, tz1, tz2⟩ := info_parts infoTok
  have HJ1 := Lib.hid kj; have HJ2 := Lib.hid kz0; have HJ3 := Lib.hid kz1; have HJ4 := Lib.hid kz2
  have HT1 := Lib.hid tj; have HT2 := Lib.hid tz0; have HT3 := Lib.hid tz1; have HT4 := Lib.hid tz2
  have hnr := nR_le s.data.toList
  have hlen : s.data.toList.length = s.size := by simp
  rw [hlen] at hnr
  have HCL := Lib.hid (cutF_len 3 (runeL s.data.toList))
  have HCO := Lib.hid (cutF_ok 3 (runeL s.data.toList))
  have HRL := Lib.hid (runeL_len s.data.toList)
  have HPC := Lib.hid (cellP_pos s)
  have HCR := Lib.hid (cellR_runes s.data.toList)
  have HPL := Lib.hid (posL_len s.data.toList)
  have HPG : Hid (∀ i, i ≤ nR s.data.toList → (posL s.data.toList)[i]? = some (posAt s.data.toList i)) := Lib.hid (posAt_get s.data.toList)
  have HTE : Hid (tokensF 3 s = tokOf s (cutF 3 (runeL s.data.toList))) := Lib.hid rfl
  have HNR : Hid ((runesL s.data.toList).length = nR s.data.toList) := Lib.hid rfl
  rw [HTE.out]
  rw [HRL.out] at HCL HCO
  clear kj kz0 kz1 kz2 tj tz0 tz1 tz2 hlen HTE
  go_enter Tryz.func56, Tryz.ntmps56
  go_wp2_with fail
  refine (refRunes_any s _ (by omega)).mono ?_
  rintro e wa ⟨v1, v2, rfl, o1, o2, b1⟩
  rw [HCR.out] at o2
  rw [HNR.out] at o1 o2
  obtain ⟨ao2, cp2, rfl⟩ := own_slice2 o2
  have HRB : Hid (∀ ad, ao2 = some ad → v1.ownBlock ≠ some ad.block) := Lib.hid (fun ad e => by
    subst e
    have h3 := own_own_ne o2 o1 (by decide)
    rcases h3 with h3 | h3
    · cases h3
    · exact fun h4 => h3 (by rw [h4]; rfl))
  have HR2 : Hid (Reads wa wa.heap.size 1 ao2 (nR s.data.toList) (runeCells (runeL s.data.toList))) := Lib.hid (Reads.of_own o2)
  have HO1 := Lib.hid o1
  have HB1 := Lib.hid b1
  have hzb1 := b1.size
  have hoa := o1.alloc (.cells #[.int .i64 (s.size : Int)] 3)
  clear o1 o2 b1
  go_wp2_with (at_builtin; refine wpList_append_own _ rfl (.tmp 20) (.tmp 23) 44 rfl w.heap.size 3 i0 (.int .i64 0) 1 8 Tryz.underlying44 hi hz0 hz1 hz2 rfl (by decide) _ _ _ rfl hoa ⟨wa.heap.size, 0, none⟩ 1 1 [.int .i64 (s.size : Int)] rfl rfl ?c1 ?c2 ?c3 ?c4 ?c5 ?_)
  case c1 => exact cell_one_new _ _ _
  case c2 => intro u hu; simp at hu; subst hu; rfl
  case c3 => unfold maxLen; omega
  case c4 => omega
  case c5 => simp; omega
  intro v1' wb o1' g1 _
  have HB2 := Lib.hid ((HB1.out.alloc HB1.out.size (.cells #[.int .i64 (s.size : Int)] 3)).grown g1 (by simp; omega) (fun r e => (HO1.out.lt r e).1))
  have HRR : Hid (Reads wb wb.heap.size 1 ao2 (nR s.data.toList) (runeCells (runeL s.data.toList))) := Lib.hid (by
    have h1 := HR2.out
    refine ⟨h1.1, fun hn => ?_⟩
    obtain ⟨ad, rfl, hb, hc⟩ := h1.2 hn
    have hz := g1.size
    refine ⟨ad, rfl, by simp at hz; omega, fun j u hu => ?_⟩
    have h2 := HRB.out ad rfl
    exact (World.cell?_of_block (by
      rw [block_of_add]
      exact (g1.block ad.block (by simp; omega) (fun e => h2 e.symm)).trans (Below.heap_alloc _ _ _ hb))).trans (hc j u hu))
  rw [HPC.out] at o1'
  obtain ⟨g, cap, cur, rfl, hbg, hc1, hc2, hcell⟩ := own_blk o1' (by omega)
  have HCE : Hid (∀ i, i ≤ nR s.data.toList → cur[i]? = some (.int .i64 (posAt s.data.toList i : Int))) := Lib.hid (fun i h => hcell i _ (by rw [List.getElem?_map, HPG.out i h]; rfl))
  have HG := Lib.hid hbg
  have hglt := hbg.lt
  unfold maxLen at hc2
  clear o1' g1 hoa hcell hbg HR2 HO1 HB1 HPG HPL hi hz0 hz1 hz2 hzb1 HRB
  have hrl := HRL.out
  have HCE3 : Hid (cutF 3 (runeL s.data.toList) = if runeL s.data.toList = [] then [] else [(0, (runeL s.data.toList).length)]) := Lib.hid rfl
  by_cases he : nR s.data.toList = 0
  · have HCF : Hid (cutF 3 (runeL s.data.toList) = []) := Lib.hid (by rw [HCE3.out, if_pos (List.eq_nil_of_length_eq_zero (by omega))])
    generalize cutF 3 (runeL s.data.toList) = C at *
    have h0 : decide ((0 : Int) < (nR s.data.toList : Int)) = false := by rw [decide_eq_false_iff_not]; omega
    have h00 : decide (0 < nR s.data.toList) = false := by rw [decide_eq_false_iff_not]; omega
    have h01 : ¬ 0 < nR s.data.toList := by omega
    have HBS := HB2
    have HGS := HG
    have hzs := HBS.out.size
    clear HCE3 HRR hrl he
    go_wp2_with fail
    go_loopw [11, 12, 13, 14] (fun o i _ _ wq => o = .slice none 0 0 ∧ i = .int .i64 0 ∧ wq = wb) (fun _ _ _ _ _ => 0)
    case atStart => exact ⟨rfl, rfl, rfl⟩
    case round =>
      obtain ⟨rfl, rfl, rfl⟩ := hrel
      go_wp2_with fail
      go_ret
      refine ⟨.slice none 0 0, rfl, ?_, HBS.out⟩
      rw [HCF.out]
      exact World.ownsRow_nil _ _ _ _
  · have HCF : Hid (cutF 3 (runeL s.data.toList) = [(0, nR s.data.toList)]) := Lib.hid (by rw [HCE3.out, if_neg (fun e => he (by rw [← hrl, e]; rfl)), hrl])
    generalize cutF 3 (runeL s.data.toList) = C at *
    have h0 : decide ((0 : Int) < (nR s.data.toList : Int)) = true := by rw [decide_eq_true_iff]; omega
    have h00 : 0 < nR s.data.toList := by omega
    have hi := HJ1.out; have hz0 := HJ2.out; have hz1 := HJ3.out; have hz2 := HJ4.out
    have hzb := HB2.out.size
    clear HCE3 HRR hrl
    go_wp2_with (at_builtin; refine wpList_append_own _ rfl (.tmp 34) (.tmp 38) 113 rfl w.heap.size 114 j0 (.agg #[.int .i64 0, .int .i64 0]) 2 16 Tryz.underlying113 hi hz0 hz1 hz2 rfl (by decide) (.slice none 0 0) 0 [] rfl (World.ownsRow_nil _ _ _ _) ⟨wb.heap.size, 0, none⟩ 1 1 [.int .i64 0, .int .i64 (nR s.data.toList : Int)] rfl rfl ?e1 ?e2 ?e3 ?e4 ?e5 ?_)
    case e1 => intro j u hu; exact cells_new wb [.int .i64 0, .int .i64 (nR s.data.toList : Int)] _ j u hu
    case e2 => intro u hu; exact pair_one (ts := [(0, nR s.data.toList)]) hu
    case e3 => unfold maxLen; omega
    case e4 => omega
    case e5 => simp; omega
    intro vc ws oc gc _
    have oc2 : ws.ownsRow w.heap.size 114 2 vc C.length (pairCells C) := by rw [HCF.out]; exact oc
    have hbn : Below wb.heap.size wb ws := ((Below.refl _ _).alloc (Nat.le_refl _) _).grown gc (by simp) (fun r e => by cases e)
    obtain ⟨aoc, cpc, rfl⟩ := own_slice2 oc2
    have HOC := Lib.hid oc2
    have HBS := Lib.hid (HB2.out.trans (hbn.mono hzb))
    have HGS := Lib.hid (HG.out.below hbn HG.out.lt)
    have hzs := HBS.out.size
    have hcl := HCL.out
    clear oc oc2 gc hbn HG hi hz0 hz1 hz2
    have Hws : Hid (Below w.heap.size w ws) := HBS
    go_wp2_with fail
    go_loopw [11, 12, 13, 14] (fun o i _ _ wq => ∃ j : Nat, j ≤ C.length ∧ i = .int .i64 j ∧ Hid (wq.ownsRow ws.heap.size 117 4 o (tokOf s (C.take j)).length (tokCells (tokOf s (C.take j)))) ∧ Hid (Below ws.heap.size ws wq)) (fun _ i _ _ _ => C.length - (RowKit.intOf i).toNat)
    case atStart => exact ⟨0, by omega, rfl, Lib.hid (World.ownsRow_nil _ _ _ _), Lib.hid (Below.refl _ _)⟩
    case round =>
      obtain ⟨j, hj, rfl, HO, HW⟩ := hrel
      have hzr := HW.out.size
      by_cases hlt : j < C.length
      · obtain ⟨gc, capc, curc, hveq, hbc, _, _, hcc⟩ := own_blk HOC.out (by omega)
        simp only [Value.slice.injEq, true_and] at hveq
        obtain ⟨rfl, rfl⟩ := hveq
        obtain ⟨q0, q1⟩ := pair_cells (hbc.below HW.out hbc.lt) hcc hlt
        obtain ⟨hab1, hab2⟩ := HCO.out.1 C[j] (List.getElem_mem hlt)
        have HTK := Lib.hid (take_toks s C j hlt)
        have htl : (tokOf s (C.take j)).length = j := by rw [tokOf_len, List.length_take]; omega
        have HTL := Lib.hid htl; clear htl hcc hbc
        generalize C[j] = c at *
        obtain ⟨a, b⟩ := c
        dsimp only at q0 q1 hab1 hab2
        have p0 : wr.cell? ⟨g, a, none⟩ = some (.int .i64 (posAt s.data.toList a : Int)) := ((HGS.out.below HW.out HGS.out.lt).cell a).trans (HCE.out a (by omega))
        have p1 : wr.cell? ⟨g, b, none⟩ = some (.int .i64 (posAt s.data.toList b : Int)) := ((HGS.out.below HW.out HGS.out.lt).cell b).trans (HCE.out b hab2)
        have hx1 : (a : Int) < (nR s.data.toList : Int) + 1 := by omega
        have hx2 : (b : Int) < (nR s.data.toList : Int) + 1 := by omega
        have hpm := posAt_mono s.data.toList a b (by omega) hab2
        have hpe := posAt_le s.data.toList b
        rw [show s.data.toList.length = s.size by simp] at hpe
        have hx3 : (posAt s.data.toList a : Int) ≤ (posAt s.data.toList b : Int) := by omega
        have hx4 : (posAt s.data.toList b : Int) ≤ (s.size : Int) := by omega
        have ho := HO.out
        rw [HTL.out] at ho
        have hi := HT1.out; have hz0 := HT2.out; have hz1 := HT3.out; have hz2 := HT4.out
        go_wp2_with (at_builtin; refine wpList_append_own _ rfl (.tmp 113) (.tmp 122) 83 rfl ws.heap.size 117 t0 (.agg #[.string ⟨#[]⟩, .int .i64 0, .int .i64 0, .int .i64 0]) 4 40 Tryz.underlying83 hi hz0 hz1 hz2 rfl (by decide) _ j (tokCells (tokOf s (C.take j))) rfl (ho.alloc _) ⟨wr.heap.size, 0, none⟩ 1 1 [.string (s.extract (posAt s.data.toList a) (posAt s.data.toList b)), .int .i64 (j : Int), .int .i64 (posAt s.data.toList a : Int), .int .i64 (posAt s.data.toList b : Int)] rfl rfl ?f1 ?f2 ?f3 ?f4 ?f5 ?_)
        case f1 => intro q u hu; exact cells_new wr [.string (s.extract (posAt s.data.toList a) (posAt s.data.toList b)), .int .i64 (j : Int), .int .i64 (posAt s.data.toList a : Int), .int .i64 (posAt s.data.toList b : Int)] _ q u hu
        case f2 => intro u hu; exact tok_one (ts := [tokAt s j (a, b)]) hu
        case f3 => unfold maxLen; omega
        case f4 => omega
        case f5 => simp; omega
        intro v' w4 ho4 hg4 _
        have hb4 : Below ws.heap.size ws w4 := (HW.out.alloc hzr _).grown hg4 (by simp; omega) (fun r e => (ho.lt r e).1)
        have HO4 : Hid (w4.ownsRow ws.heap.size 117 4 v' (tokOf s (C.take (j + 1))).length (tokCells (tokOf s (C.take (j + 1))))) := Lib.hid (by rw [HTK.out, tokCells_append, List.length_append, HTL.out]; exact ho4)
        have HB4 := Lib.hid hb4
        clear ho ho4 hg4 hb4 hi hz0 hz1 hz2 p0 p1 q0 q1
        go_wp2_with fail
        go_roundw
        case rel => exact ⟨j + 1, by omega, by go_num, HO4, HB4⟩
        case measure => simp [RowKit.intOf]; omega
      · obtain rfl : j = C.length := by omega
        have HOF : Hid (wr.ownsRow ws.heap.size 117 4 u11 (tokOf s C).length (tokCells (tokOf s C))) := Lib.hid (by have := HO.out; rwa [List.take_of_length_le (Nat.le_refl _)] at this)
        go_wp2_with fail
        go_ret
        exact ⟨_, rfl, own_base HOF.out Hws.out.size, Hws.out.trans (HW.out.mono Hws.out.size)⟩
set_option maxRecDepth 100000 in
set_option maxHeartbeats 8000000 in
theorem refToks_4 (s : ByteArray) (w : World) (hs : s.size ≤ 1073741824) :
    Calls Tryz.prog 56 #[.int .i64 4, .string s] w (OwnToks (tokensF 4 s) w) := by
  obtain ⟨i0, hi, hz0, hz1, hz2⟩ := info_parts infoInt
  obtain ⟨j0, kj, kz0, kz1, kz2⟩ := info_parts infoPair
  obtain ⟨t0, tj, tz0, tz1, tz2⟩ := info_parts infoTok
  have HJ1 := Lib.hid kj; have HJ2 := Lib.hid kz0; have HJ3 := Lib.hid kz1; have HJ4 := Lib.hid kz2
  have HT1 := Lib.hid tj; have HT2 := Lib.hid tz0; have HT3 := Lib.hid tz1; have HT4 := Lib.hid tz2
  have hnr := nR_le s.data.toList
  have hlen : s.data.toList.length = s.size := by simp
  rw [hlen] at hnr
  have HCL := Lib.hid (cutF_len 4 (runeL s.data.toList))
  have HCO := Lib.hid (cutF_ok 4 (runeL s.data.toList))
  have HRL := Lib.hid (runeL_len s.data.toList)
  have HPC := Lib.hid (cellP_pos s)
  have HCR := Lib.hid (cellR_runes s.data.toList)
  have HPL := Lib.hid (posL_len s.data.toList)
  have HPG : Hid (∀ i, i ≤ nR s.data.toList → (posL s.data.toList)[i]? = some (posAt s.data.toList i)) := Lib.hid (posAt_get s.data.toList)
  have HTE : Hid (tokensF 4 s = tokOf s (cutF 4 (runeL s.data.toList))) := Lib.hid rfl
  have HNR : Hid ((runesL s.data.toList).length = nR s.data.toList) := Lib.hid rfl
  rw [HTE.out]
  rw [HRL.out] at HCL HCO
  clear kj kz0 kz1 kz2 tj tz0 tz1 tz2 hlen HTE
  go_enter Tryz.func56, Tryz.ntmps56
  go_wp2_with fail
  refine (refRunes_any s _ (by omega)).mono ?_
  rintro e wa ⟨v1, v2, rfl, o1, o2, b1⟩
  rw [HCR.out] at o2
  rw [HNR.out] at o1 o2
  obtain ⟨ao2, cp2, rfl⟩ := own_slice2 o2
  have HRB : Hid (∀ ad, ao2 = some ad → v1.ownBlock ≠ some ad.block) := Lib.hid (fun ad e => by
    subst e
    have h3 := own_own_ne o2 o1 (by decide)
    rcases h3 with h3 | h3
    · cases h3
    · exact fun h4 => h3 (by rw [h4]; rfl))
  have HR2 : Hid (Reads wa wa.heap.size 1 ao2 (nR s.data.toList) (runeCells (runeL s.data.toList))) := Lib.hid (Reads.of_own o2)
  have HO1 := Lib.hid o1
  have HB1 := Lib.hid b1
  have hzb1 := b1.size
  have hoa := o1.alloc (.cells #[.int .i64 (s.size : Int)] 3)
  clear o1 o2 b1
  go_wp2_with (at_builtin; refine wpList_append_own _ rfl (.tmp 20) (.tmp 23) 44 rfl w.heap.size 3 i0 (.int .i64 0) 1 8 Tryz.underlying44 hi hz0 hz1 hz2 rfl (by decide) _ _ _ rfl hoa ⟨wa.heap.size, 0, none⟩ 1 1 [.int .i64 (s.size : Int)] rfl rfl ?c1 ?c2 ?c3 ?c4 ?c5 ?_)
  case c1 => exact cell_one_new _ _ _
  case c2 => intro u hu; simp at hu; subst hu; rfl
  case c3 => unfold maxLen; omega
  case c4 => omega
  case c5 => simp; omega
  intro v1' wb o1' g1 _
  have HB2 := Lib.hid ((HB1.out.alloc HB1.out.size (.cells #[.int .i64 (s.size : Int)] 3)).grown g1 (by simp; omega) (fun r e => (HO1.out.lt r e).1))
  have HRR : Hid (Reads wb wb.heap.size 1 ao2 (nR s.data.toList) (runeCells (runeL s.data.toList))) := Lib.hid (by
    have h1 := HR2.out
    refine ⟨h1.1, fun hn => ?_⟩
    obtain ⟨ad, rfl, hb, hc⟩ := h1.2 hn
    have hz := g1.size
    refine ⟨ad, rfl, by simp at hz; omega, fun j u hu => ?_⟩
    have h2 := HRB.out ad rfl
    exact (World.cell?_of_block (by
      rw [block_of_add]
      exact (g1.block ad.block (by simp; omega) (fun e => h2 e.symm)).trans (Below.heap_alloc _ _ _ hb))).trans (hc j u hu))
  rw [HPC.out] at o1'
  obtain ⟨g, cap, cur, rfl, hbg, hc1, hc2, hcell⟩ := own_blk o1' (by omega)
  have HCE : Hid (∀ i, i ≤ nR s.data.toList → cur[i]? = some (.int .i64 (posAt s.data.toList i : Int))) := Lib.hid (fun i h => hcell i _ (by rw [List.getElem?_map, HPG.out i h]; rfl))
  have HG := Lib.hid hbg
  have hglt := hbg.lt
  unfold maxLen at hc2
  clear o1' g1 hoa hcell hbg HR2 HO1 HB1 HPG HPL hi hz0 hz1 hz2 hzb1 HRB
  have HCF : Hid (cutF 4 (runeL s.data.toList) = (runIx mayF wordF (runeL s.data.toList) 0 none).flatMap pieces2) := Lib.hid rfl
  have HRU := Lib.hid (fun cp W hW => refRuns_1 ao2 cp (runeL s.data.toList) W (by rw [HRL.out]; omega) hW)
  have hco := fun c hc => runIx_mem (may := mayF) (begins := wordF) (runeL s.data.toList) 0 none (fun a e => by cases e) c hc
  have hll := runIx_len (may := mayF) (begins := wordF) (runeL s.data.toList) 0 none
  rw [HRL.out] at HRU hco hll
  generalize cutF 4 (runeL s.data.toList) = C at *
  generalize runIx mayF wordF (runeL s.data.toList) 0 none = L at *
  have hLn : L.length ≤ s.size := by simp at hll; omega
  have HCM : Hid (∀ c ∈ L, c.1 < c.2 ∧ c.2 ≤ nR s.data.toList) := Lib.hid (fun c hc => by have := hco c hc; omega)
  have HTF : Hid (∀ k (h : k < L.length), (L.take (k + 1)).flatMap pieces2 = (L.take k).flatMap pieces2 ++ pieces2 L[k]) := Lib.hid (fun k h => take_flat L k h)
  have HFB : Hid (∀ k, ((L.take k).flatMap pieces2).length ≤ s.size) := Lib.hid (fun k => by
    have h1 := HCL.out
    rw [HCF.out] at h1
    have h2 : (L.flatMap pieces2).length = ((L.take k).flatMap pieces2).length + ((L.drop k).flatMap pieces2).length := by rw [← List.length_append, ← List.flatMap_append, List.take_append_drop]
    omega)
  clear hco hll
  go_wp2_with fail
  refine (HRU.out _ _ HRR.out).mono ?_
  rintro e wc ⟨v, rfl, oc, bc⟩
  obtain ⟨aoc, cpc, rfl⟩ := own_slice2 oc
  have HOA := Lib.hid oc
  have HB3 := Lib.hid (HB2.out.trans (bc.mono HB2.out.size))
  have HG3 := Lib.hid (HG.out.below bc HG.out.lt)
  clear oc bc HRR HRU HG HB2
  go_wp2_with fail
  go_loopw [7, 9, 10] (fun o i _ wq => ∃ k : Nat, k ≤ L.length ∧ i = .int .i64 k ∧ Hid (wq.ownsRow wc.heap.size 114 2 o ((L.take k).flatMap pieces2).length (pairCells ((L.take k).flatMap pieces2))) ∧ Hid (Below wc.heap.size wc wq)) (fun _ i _ _ => L.length - (RowKit.intOf i).toNat)
  case atStart => exact ⟨0, by omega, rfl, Lib.hid (World.ownsRow_nil _ _ _ _), Lib.hid (Below.refl _ _)⟩
  case round =>
    obtain ⟨k, hk, rfl, HO, HW⟩ := hrel
    have hzr := HW.out.size
    by_cases hlt : k < L.length
    · obtain ⟨ga, capa, cura, hveq, hba, _, _, hca⟩ := own_blk HOA.out (by omega)
      simp only [Value.slice.injEq, true_and] at hveq
      obtain ⟨rfl, rfl⟩ := hveq
      have HPA : Hid (∀ W, Below wc.heap.size wc W → W.cell? ⟨ga, k * 2, none⟩ = some (.int .i64 (L[k].1 : Int)) ∧ W.cell? ⟨ga, k * 2 + 1, none⟩ = some (.int .i64 (L[k].2 : Int))) := Lib.hid (fun W h => pair_cells (hba.below h hba.lt) hca hlt)
      obtain ⟨hab1, hab2⟩ := HCM.out L[k] (List.getElem_mem hlt)
      have HTK := Lib.hid (HTF.out k hlt)
      have hfb := HFB.out (k + 1)
      have hfk := HFB.out k
      rw [HTK.out, List.length_append] at hfb
      have HPW := Lib.hid (pieces2_count L[k] hab1)
      have HGT := Lib.hid (pieces2_get L[k] hab1)
      have HP2 : Hid (pieces2 L[k] = if L[k].2 = L[k].1 + 1 then [L[k]] else (List.range (L[k].2 - L[k].1 - 1)).map fun i => (L[k].1 + i, L[k].1 + i + 2)) := Lib.hid rfl
      have HPWD : Hid (pw L[k] = if L[k].2 = L[k].1 + 1 then 1 else 2) := Lib.hid rfl
      generalize L[k] = c at *
      obtain ⟨a, b⟩ := c
      dsimp only at *
      have hgal : ga < wc.heap.size := hba.lt
      clear hca hba
      obtain ⟨q0, q1⟩ := HPA.out wr.drew HW.out.drew
      obtain ⟨r0, r1⟩ := HPA.out wr HW.out
      have hx1 : (k : Int) < (L.length : Int) := by omega
      have hw1 : IntKind.i64.wrap ((a : Int) + 1) = (a : Int) + 1 := IntWalk.i64_in _ (by omega)
      generalize hpre : (L.take k).flatMap pieces2 = pre at *
      by_cases hone : b = a + 1
      · have HPN : Hid (pieces2 (a, b) = [(a, b)]) := Lib.hid (by rw [HP2.out, if_pos hone])
        subst hone
        have q2 : wr.drew.cell? ⟨ga, k * 2 + 1, none⟩ = some (.int .i64 ((a : Int) + 1)) := q1
        have r2 : wr.cell? ⟨ga, k * 2 + 1, none⟩ = some (.int .i64 ((a : Int) + 1)) := r1
        clear q1 r1
        have HPL1 : Hid ((pieces2 (a, a + 1)).length = 1) := Lib.hid (by rw [HPN.out]; rfl)
        have hfb1 : pre.length + 1 ≤ s.size := by have := HPL1.out; omega
        have hi := HJ1.out; have hz0 := HJ2.out; have hz1 := HJ3.out; have hz2 := HJ4.out
        rw [HPN.out] at HTK
        have ho := HO.out
        go_wp2_with fail
        go_quiet (fail)
        go_wp2_with (at_builtin; refine wpList_append_own _ rfl (.tmp 62) (.tmp 67) 113 rfl wc.heap.size 114 j0 (.agg #[.int .i64 0, .int .i64 0]) 2 16 Tryz.underlying113 hi hz0 hz1 hz2 rfl (by decide) _ _ _ rfl ((own_drewN ho _).alloc _) ⟨wr.heap.size, 0, none⟩ 1 1 [.int .i64 (a : Int), .int .i64 ((a : Int) + 1)] rfl rfl ?g1 ?g2 ?g3 ?g4 ?g5 ?_)
        case g1 => intro j u hu; exact cells_new _ [.int .i64 (a : Int), .int .i64 ((a : Int) + 1)] _ j u hu
        case g2 => intro u hu; simp only [List.mem_cons, List.not_mem_nil, or_false] at hu; rcases hu with rfl | rfl <;> rfl
        case g3 => unfold maxLen; omega
        case g4 => omega
        case g5 => simp; omega
        intro v' w4 ho4 hg4 _
        have hb4 : Below wc.heap.size wc w4 := ((Words.below_drewN HW.out _).alloc hzr _).grown hg4 (by simp; omega) (fun r e => (ho.lt r e).1)
        have HO4 : Hid (w4.ownsRow wc.heap.size 114 2 v' ((L.take (k + 1)).flatMap pieces2).length (pairCells ((L.take (k + 1)).flatMap pieces2))) := Lib.hid (by rw [HTK.out, pairCells_append, List.length_append]; exact ho4)
        have HB4 := Lib.hid hb4
        obtain ⟨s0, s1⟩ := HPA.out w4 hb4
        have hw2 : IntKind.i64.wrap ((a : Int) + 2) = (a : Int) + 2 := IntWalk.i64_in _ (by omega)
        have s2 : w4.cell? ⟨ga, k * 2 + 1, none⟩ = some (.int .i64 ((a : Int) + 1)) := s1
        clear s1
        have hle : decide ((a : Int) + 2 ≤ (a : Int) + 1) = false := by rw [decide_eq_false_iff_not]; omega
        clear ho ho4 hg4 hb4 hi hz0 hz1 hz2 q0 q2 r0 r2
        go_wp2_with fail
        go_loopw [7, 10] (fun o q wq => o = v' ∧ q = .int .i64 (a : Int) ∧ wq = w4) (fun _ _ _ => 0)
        case atStart => exact ⟨rfl, rfl, rfl⟩
        case round =>
          obtain ⟨rfl, rfl, rfl⟩ := hrel
          go_wp2_with fail
          go_roundw
          case rel => exact ⟨k + 1, by omega, by go_num, HO4, HB4⟩
          case measure => simp [RowKit.intOf]; omega
      · have heq : ((b : Int) == (a : Int) + 1) = false := by rw [beq_eq_false_iff_ne]; omega
        have HPW2 : Hid (pw (a, b) = 2) := Lib.hid (by rw [HPWD.out, if_neg hone])
        have HPL1 : Hid ((pieces2 (a, b)).length = b - 1 - a) := Lib.hid (by have := HPW.out; rw [HPW2.out] at this; omega)
        rw [HPL1.out] at hfb
        rw [HPW2.out] at HGT
        have HTS : Hid (∀ q, a ≤ q → q + 2 ≤ b → (pieces2 (a, b)).take (q + 1 - a) = (pieces2 (a, b)).take (q - a) ++ [(q, q + 2)]) := Lib.hid (fun q h1 h2 => by
          have h3 := HGT.out (q - a) (by omega)
          rw [show a + (q - a) = q by omega] at h3
          rw [show q + 1 - a = q - a + 1 by omega, List.take_add_one, h3]; rfl)
        have HTL : Hid (∀ q, a ≤ q → q + 1 ≤ b → ((pieces2 (a, b)).take (q - a)).length = q - a) := Lib.hid (fun q h1 h2 => by rw [List.length_take, HPL1.out]; omega)
        have HTE : Hid (pre ++ (pieces2 (a, b)).take (b - 1 - a) = (L.take (k + 1)).flatMap pieces2) := Lib.hid (by rw [HTK.out, ← HPL1.out, List.take_length])
        have HT0 : Hid (pre ++ (pieces2 (a, b)).take (a - a) = pre) := Lib.hid (by rw [Nat.sub_self]; simp)
        clear HGT
        go_wp2_with fail
        go_quiet (fail)
        go_wp2_with fail
        go_loopw [7, 10] (fun o q wq => ∃ qn : Nat, a ≤ qn ∧ qn + 1 ≤ b ∧ q = .int .i64 qn ∧ Hid (wq.ownsRow wc.heap.size 114 2 o (pre ++ (pieces2 (a, b)).take (qn - a)).length (pairCells (pre ++ (pieces2 (a, b)).take (qn - a)))) ∧ Hid (Below wc.heap.size wc wq)) (fun _ q _ => b - (RowKit.intOf q).toNat)
        case atStart => exact ⟨a, Nat.le_refl _, by omega, rfl, Lib.hid (by rw [HT0.out]; exact HO.out), Lib.hid (HW.out.trans ⟨rfl, rfl, rfl, Nat.le_refl _, fun _ _ => rfl⟩)⟩
        case round =>
          obtain ⟨q, hq1, hq2, rfl, HQ, HV⟩ := hrel
          have hzq := HV.out.size
          obtain ⟨s0, s1⟩ := HPA.out wr HV.out
          have hw2 : IntKind.i64.wrap ((q : Int) + 2) = (q : Int) + 2 := IntWalk.i64_in _ (by omega)
          by_cases hlq : q + 2 ≤ b
          · have hle : decide ((q : Int) + 2 ≤ (b : Int)) = true := by rw [decide_eq_true_iff]; omega
            have hln : (pre ++ (pieces2 (a, b)).take (q - a)).length = pre.length + (q - a) := by rw [List.length_append, HTL.out q hq1 hq2]
            have HLN := Lib.hid hln
            have HTQ := Lib.hid (HTS.out q hq1 hlq)
            have hi := HJ1.out; have hz0 := HJ2.out; have hz1 := HJ3.out; have hz2 := HJ4.out
            have ho := HQ.out
            rw [hln] at ho
            clear hln
            go_wp2_with (at_builtin; refine wpList_append_own _ rfl (.tmp 84) (.tmp 89) 113 rfl wc.heap.size 114 j0 (.agg #[.int .i64 0, .int .i64 0]) 2 16 Tryz.underlying113 hi hz0 hz1 hz2 rfl (by decide) _ _ _ rfl (ho.alloc _) ⟨wr.heap.size, 0, none⟩ 1 1 [.int .i64 (q : Int), .int .i64 ((q : Int) + 2)] rfl rfl ?h1 ?h2 ?h3 ?h4 ?h5 ?_)
            case h1 => intro j u hu; exact cells_new wr [.int .i64 (q : Int), .int .i64 ((q : Int) + 2)] _ j u hu
            case h2 => intro u hu; simp only [List.mem_cons, List.not_mem_nil, or_false] at hu; rcases hu with rfl | rfl <;> rfl
            case h3 => unfold maxLen; omega
            case h4 => omega
            case h5 => simp; omega
            intro v' w4 ho4 hg4 _
            have hb4 : Below wc.heap.size wc w4 := (HV.out.alloc hzq _).grown hg4 (by simp; omega) (fun r e => (ho.lt r e).1)
            have HO4 : Hid (w4.ownsRow wc.heap.size 114 2 v' (pre ++ (pieces2 (a, b)).take (q + 1 - a)).length (pairCells (pre ++ (pieces2 (a, b)).take (q + 1 - a)))) := Lib.hid (by
              rw [HTQ.out, ← List.append_assoc, pairCells_append, List.length_append, HLN.out]; exact ho4)
            have HB4 := Lib.hid hb4
            clear ho ho4 hg4 hb4 hi hz0 hz1 hz2 s0 s1
            go_wp2_with fail
            go_roundw
            case rel => exact ⟨q + 1, by omega, by omega, by go_num, HO4, HB4⟩
            case measure => simp [RowKit.intOf]; omega
          · obtain rfl : q = b - 1 := by omega
            have hle : decide (((b - 1 : Nat) : Int) + 2 ≤ (b : Int)) = false := by rw [decide_eq_false_iff_not]; omega
            have HO4 : Hid (wr.ownsRow wc.heap.size 114 2 u7 ((L.take (k + 1)).flatMap pieces2).length (pairCells ((L.take (k + 1)).flatMap pieces2))) := Lib.hid (by rw [← HTE.out]; exact HQ.out)
            go_wp2_with fail
            go_roundw
            case rel => exact ⟨k + 1, by omega, by go_num, HO4, HV⟩
            case measure => simp [RowKit.intOf]; omega
    · obtain rfl : k = L.length := by omega
      have HTA : Hid ((L.take L.length).flatMap pieces2 = L.flatMap pieces2) := Lib.hid (by rw [List.take_length])
      rw [HTA.out, ← HCF.out] at HO
      have HOC := HO
      have HBS := Lib.hid (HB3.out.trans (HW.out.mono HB3.out.size))
      have HGS := Lib.hid (HG3.out.below HW.out HG3.out.lt)
      generalize wr = ws at *
      obtain ⟨aoc, cpc, rfl⟩ := own_slice2 HOC.out
      have hzs := HBS.out.size
      have hcl := HCL.out
      clear HO HW HTA
      have Hws : Hid (Below w.heap.size w ws) := HBS
      go_wp2_with fail
      go_loopw [11, 12, 13, 14] (fun o i _ _ wq => ∃ j : Nat, j ≤ C.length ∧ i = .int .i64 j ∧ Hid (wq.ownsRow ws.heap.size 117 4 o (tokOf s (C.take j)).length (tokCells (tokOf s (C.take j)))) ∧ Hid (Below ws.heap.size ws wq)) (fun _ i _ _ _ => C.length - (RowKit.intOf i).toNat)
      case atStart => exact ⟨0, by omega, rfl, Lib.hid (World.ownsRow_nil _ _ _ _), Lib.hid (Below.refl _ _)⟩
      case round =>
        obtain ⟨j, hj, rfl, HO, HW⟩ := hrel
        have hzr := HW.out.size
        by_cases hlt : j < C.length
        · obtain ⟨gc, capc, curc, hveq, hbc, _, _, hcc⟩ := own_blk HOC.out (by omega)
          simp only [Value.slice.injEq, true_and] at hveq
          obtain ⟨rfl, rfl⟩ := hveq
          obtain ⟨q0, q1⟩ := pair_cells (hbc.below HW.out hbc.lt) hcc hlt
          obtain ⟨hab1, hab2⟩ := HCO.out.1 C[j] (List.getElem_mem hlt)
          have HTK := Lib.hid (take_toks s C j hlt)
          have htl : (tokOf s (C.take j)).length = j := by rw [tokOf_len, List.length_take]; omega
          have HTL := Lib.hid htl; clear htl hcc hbc
          generalize C[j] = c at *
          obtain ⟨a, b⟩ := c
          dsimp only at q0 q1 hab1 hab2
          have p0 : wr.cell? ⟨g, a, none⟩ = some (.int .i64 (posAt s.data.toList a : Int)) := ((HGS.out.below HW.out HGS.out.lt).cell a).trans (HCE.out a (by omega))
          have p1 : wr.cell? ⟨g, b, none⟩ = some (.int .i64 (posAt s.data.toList b : Int)) := ((HGS.out.below HW.out HGS.out.lt).cell b).trans (HCE.out b hab2)
          have hx1 : (a : Int) < (nR s.data.toList : Int) + 1 := by omega
          have hx2 : (b : Int) < (nR s.data.toList : Int) + 1 := by omega
          have hpm := posAt_mono s.data.toList a b (by omega) hab2
          have hpe := posAt_le s.data.toList b
          rw [show s.data.toList.length = s.size by simp] at hpe
          have hx3 : (posAt s.data.toList a : Int) ≤ (posAt s.data.toList b : Int) := by omega
          have hx4 : (posAt s.data.toList b : Int) ≤ (s.size : Int) := by omega
          have ho := HO.out
          rw [HTL.out] at ho
          have hi := HT1.out; have hz0 := HT2.out; have hz1 := HT3.out; have hz2 := HT4.out
          go_wp2_with (at_builtin; refine wpList_append_own _ rfl (.tmp 113) (.tmp 122) 83 rfl ws.heap.size 117 t0 (.agg #[.string ⟨#[]⟩, .int .i64 0, .int .i64 0, .int .i64 0]) 4 40 Tryz.underlying83 hi hz0 hz1 hz2 rfl (by decide) _ j (tokCells (tokOf s (C.take j))) rfl (ho.alloc _) ⟨wr.heap.size, 0, none⟩ 1 1 [.string (s.extract (posAt s.data.toList a) (posAt s.data.toList b)), .int .i64 (j : Int), .int .i64 (posAt s.data.toList a : Int), .int .i64 (posAt s.data.toList b : Int)] rfl rfl ?k1 ?k2 ?k3 ?k4 ?k5 ?_)
          case k1 => intro q u hu; exact cells_new wr [.string (s.extract (posAt s.data.toList a) (posAt s.data.toList b)), .int .i64 (j : Int), .int .i64 (posAt s.data.toList a : Int), .int .i64 (posAt s.data.toList b : Int)] _ q u hu
          case k2 => intro u hu; exact tok_one (ts := [tokAt s j (a, b)]) hu
          case k3 => unfold maxLen; omega
          case k4 => omega
          case k5 => simp; omega
          intro v' w4 ho4 hg4 _
          have hb4 : Below ws.heap.size ws w4 := (HW.out.alloc hzr _).grown hg4 (by simp; omega) (fun r e => (ho.lt r e).1)
          have HO4 : Hid (w4.ownsRow ws.heap.size 117 4 v' (tokOf s (C.take (j + 1))).length (tokCells (tokOf s (C.take (j + 1))))) := Lib.hid (by rw [HTK.out, tokCells_append, List.length_append, HTL.out]; exact ho4)
          have HB4 := Lib.hid hb4
          clear ho ho4 hg4 hb4 hi hz0 hz1 hz2 p0 p1 q0 q1
          go_wp2_with fail
          go_roundw
          case rel => exact ⟨j + 1, by omega, by go_num, HO4, HB4⟩
          case measure => simp [RowKit.intOf]; omega
        · obtain rfl : j = C.length := by omega
          have HOF : Hid (wr.ownsRow ws.heap.size 117 4 u11 (tokOf s C).length (tokCells (tokOf s C))) := Lib.hid (by have := HO.out; rwa [List.take_of_length_le (Nat.le_refl _)] at this)
          go_wp2_with fail
          go_ret
          exact ⟨_, rfl, own_base HOF.out Hws.out.size, Hws.out.trans (HW.out.mono Hws.out.size)⟩
end Go.Proofs.YtinmiekbhoemjaaGreatDoor.Ana
