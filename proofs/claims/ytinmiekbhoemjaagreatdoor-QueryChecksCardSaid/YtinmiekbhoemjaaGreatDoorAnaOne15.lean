/- Contract: what the document's answer says that the filter of marks makes of a text. -/
import Derived.Test.YtinmiekbhoemjaaGreatDoorAnaOne
set_option linter.unusedVariables false
namespace Go.Proofs.YtinmiekbhoemjaaGreatDoor.Ana
open Go.RowKit Go.Lib FoldP FoldNext FoldRefFold FoldAmong AnaP Words Tree Kit Owned
open FoldRefRunes (refRunes_any cellP cellR)

theorem step_append_string {P : Program} {w : World} {ops : Array Oper} {o : Oper} {a : Act} {K : Act → World → Prop} {Q : Exit → Act → World → Prop} {E : Prop} (hgd : o.guard = none) (sl x : Operand) (t u : TypeId)
    (ho : o.op = .call { callee := .builtin .append, args := #[sl, x], argTypes := #[t, u] })
    (base : Nat) (e : TypeId) (i : TypeInfo) (ht : P.underlying t = some (.slice e)) (hu : P.underlying u = some .string) (hi : P.info? e = some i) (hz : i.zero = some (.int .u8 0)) (hsize : i.size = 1) (hby : i.bytes = 1)
    (v : Value) (n : Nat) (xs : List Value) (hs : a.eval sl = v) (hown : w.ownsRow base e 1 v n xs) (s : ByteArray) (hx : a.eval x = .string s)
    (h63 : n + s.size ≤ maxLen) (hbytes : n + s.size ≤ 140737488355328) (hbase : base ≤ w.heap.size)
    (h : ∀ v' w', w'.ownsRow base e 1 v' (n + s.size) (xs ++ strCells s) → w.grownBy w' v.ownBlock → K (a.put o.dst v') w') :
    if Region.wanted o (yielded ops a.tmps) = true then Oper.wp P o a w K Q else E := by
  have hw : Region.wanted o (yielded ops a.tmps) = true := by simp [Region.wanted, hgd]
  rw [if_pos hw]
  obtain ⟨v', w', hr, h2, h3, h4⟩ := Lib.run_append_own_string (P := P) w base t u o.type e i ht hu hi hz hsize hby v n xs hown s h63 hbytes hbase
  unfold Oper.wp execOp
  simp only [ho, resolve, invoke, builtin, Sem.run_bind, Sem.run_pure, Result.andThen_ok, List.map_toArray, List.map_cons, List.map_nil, hs, hx, hr]
  exact h v' w' h2 h3
theorem runes_cell (l : List UInt8) (i : Nat) (h : i < nR l) : ((runesL l).map cellR)[i]? = some (.int .i32 ((decodeL (l.drop (posAt l i))).1 : Int)) := by
  rw [List.getElem?_map, runes_get l i h]; rfl

set_option maxRecDepth 100000 in
set_option maxHeartbeats 2000000 in
theorem one_15 (s : ByteArray) (w : World) (hs : s.size ≤ 1048576) :
    Calls Tryz.prog 68 #[.int .i64 15, .string s] w (StrRow (marksF s) w) := by
  obtain ⟨i0, hi, hz0, hz1, hz2⟩ := info_parts infoInt
  have hnr := nR_le s.data.toList
  have hlen : s.data.toList.length = s.size := by simp
  rw [hlen] at hnr
  have HPC := Lib.hid (pos_cells s)
  have HRL : Hid ((runesL s.data.toList).length = nR s.data.toList) := Lib.hid rfl
  have HPG : Hid (∀ i, i ≤ nR s.data.toList → (posL s.data.toList)[i]? = some (posAt s.data.toList i)) := Lib.hid (fun i h => posAt_get _ i h)
  have HPM : Hid (∀ i, i < nR s.data.toList → posAt s.data.toList i < posAt s.data.toList (i + 1) ∧ posAt s.data.toList (i + 1) ≤ s.size) := Lib.hid (fun i h => by have := posAt_step s.data.toList i h; rw [hlen] at this; exact this)
  have HUS := Lib.hid (unmarkTo_succ s.data.toList)
  have HU0 : Hid (unmarkTo s.data.toList 0 = []) := Lib.hid rfl
  have HUL : Hid (∀ i, i ≤ nR s.data.toList → (unmarkTo s.data.toList i).length ≤ s.size) := Lib.hid (fun i h => by have := unmarkTo_len s.data.toList i h; have := posAt_le s.data.toList i; rw [hlen] at this; omega)
  have HRC : Hid (∀ i, i < nR s.data.toList → ∃ r : Int, ((runesL s.data.toList).map cellR)[i]? = some (.int .i32 r) ∧ unmark1 s.data.toList i = if markF r then [] else (s.data.toList.drop (posAt s.data.toList i)).take (posAt s.data.toList (i + 1) - posAt s.data.toList i)) := Lib.hid (fun i h => ⟨_, runes_cell _ i h, rfl⟩)
  have HMF : Hid (marksF s = if unmarkTo s.data.toList (nR s.data.toList) = [] then [] else [⟨(unmarkTo s.data.toList (nR s.data.toList)).toArray⟩]) := Lib.hid rfl
  obtain ⟨MF, hMF⟩ : ∃ MF, marksF s = MF := ⟨_, rfl⟩
  rw [hMF] at HMF ⊢
  obtain ⟨j0, hj, hy0, hy1, hy2⟩ := info_parts infoByte
  have HJ1 := Lib.hid hj; have HJ2 := Lib.hid hy0; have HJ3 := Lib.hid hy1; have HJ4 := Lib.hid hy2
  clear hMF hj hy0 hy1 hy2
  generalize hud : unmarkTo s.data.toList = U at *
  clear hud
  generalize hu1 : unmark1 s.data.toList = U1 at *
  clear hu1
  clear hlen
  generalize hRR : (runesL s.data.toList).map cellR = rr at *
  have HRR := Lib.hid hRR; clear hRR
  generalize hRS : (runesL s.data.toList).map cellP = rc at *
  have HRS := Lib.hid hRS; clear hRS
  generalize hP : posAt s.data.toList = P at *
  clear hP
  generalize posL s.data.toList = pl at *
  generalize nR s.data.toList = m at *
  go_enter Tryz.func68, Tryz.ntmps68
  go_wp2_with fail
  refine (refRunes_any s _ (by omega)).mono ?_
  rintro e w1 ⟨v1, v2, rfl, o1, o2, b1⟩
  obtain ⟨ao2, cp2, rfl⟩ := own_slice o2
  rw [HRL.out] at o1 o2 ⊢
  rw [HRS.out] at o1
  rw [HRR.out] at o2
  have HB1 := Lib.hid b1
  have HO2 := Lib.hid o2
  have HO1 := Lib.hid o1
  have hz1' := b1.size
  have hoa := o1.alloc (.cells #[.int .i64 (s.size : Int)] 3)
  clear o1 o2 b1
  go_wp2_with (at_builtin; refine wpList_append_own _ rfl (.tmp 18) (.tmp 21) 44 rfl w.heap.size 3 i0 (.int .i64 0) 1 8 Tryz.underlying44 hi hz0 hz1 hz2 rfl (by decide) _ m rc rfl hoa ⟨w1.heap.size, 0, none⟩ 1 1 [.int .i64 (s.size : Int)] rfl rfl ?c1 ?c2 ?c3 ?c4 ?c5 ?_)
  case c1 => exact cell_one_new _ _ _
  case c2 => intro u hu; simp at hu; subst hu; rfl
  case c3 => unfold maxLen; omega
  case c4 => omega
  case c5 => simp; omega
  intro v1' w2 o1' g1 _
  have HB2 := Lib.hid ((HB1.out.alloc HB1.out.size (.cells #[.int .i64 (s.size : Int)] 3)).grown g1 (by simp; omega) (fun r e => (HO1.out.lt r e).1))
  have HO3 := Lib.hid ((HO2.out.alloc (.cells #[.int .i64 (s.size : Int)] 3)).kept g1 (own_own_ne (HO2.out.alloc _) hoa (by decide)))
  rw [HPC.out] at o1'
  obtain ⟨g, cap, cur, rfl, hg1, hg2, hc1, hc2, hcell⟩ := ints_blk o1' (by omega)
  have HG := Lib.hid hg2; have HCE := Lib.hid hcell
  have hglt := hg2.lt
  have hz2' := HB2.out.size
  unfold maxLen at hc2
  clear o1' g1 hoa hg2 hcell HO1 HO2 HB1 hi hz0 hz1 hz2
  go_wp2_with fail
  go_loopw [11, 12] (fun o i wr => ∃ j : Nat, j ≤ m ∧ i = .int .i64 j ∧ Hid (wr.ownsRow w2.heap.size 5 1 o (U j).length (byteCells (U j))) ∧ Hid (Below w2.heap.size w2 wr)) (fun _ i _ => m - (RowKit.intOf i).toNat)
  case atStart => exact ⟨0, by omega, rfl, Lib.hid (by rw [HU0.out]; exact World.ownsRow_nil _ _ _ _), Lib.hid (Below.refl _ _)⟩
  case round =>
    obtain ⟨j, hj, rfl, HO, HW⟩ := hrel
    have hzr := HW.out.size
    by_cases hlt : j < m
    · obtain ⟨r, hr, hU1⟩ := HRC.out j hlt
      obtain ⟨g2, rfl, hg3, hg4, hcr⟩ := own_cell HO3.out hlt
      have hcr2 : wr.cell? ⟨g2, j, none⟩ = some (.int .i32 r) := (HW.out.cell (p := ⟨g2, j, none⟩) hg4).trans (hcr j _ hr)
      have HU1 := Lib.hid hU1
      clear hr hU1 hcr
      cases hmk : markF r with
      | true =>
        have HE : Hid (U (j + 1) = U j) := Lib.hid (by rw [HUS.out, HU1.out, hmk]; simp)
        have HK : Hid (∀ W, Calls Tryz.prog 83 #[.int .i32 r] W (BoolBelow true W)) := Lib.hid (fun W => by rw [← hmk]; exact refMark_any _ _)
        clear hmk
        go_wp2_with fail
        refine (HK.out _).mono ?_
        rintro e w3 ⟨rfl, b3⟩
        have HO4 := Lib.hid (own_below HO.out b3)
        have HW4 := Lib.hid (HW.out.trans (b3.mono hzr))
        clear b3 hcr2
        go_wp2_with fail
        go_roundw
        case rel => exact ⟨j + 1, by omega, by go_num, Lib.hid (by rw [HE.out]; exact HO4.out), HW4⟩
        case measure => simp [RowKit.intOf]; omega
      | false =>
        have HE : Hid (U (j + 1) = U j ++ (s.data.toList.drop (P j)).take (P (j + 1) - P j)) := Lib.hid (by rw [HUS.out, HU1.out, hmk]; simp)
        have HK : Hid (∀ W, Calls Tryz.prog 83 #[.int .i32 r] W (BoolBelow false W)) := Lib.hid (fun W => by rw [← hmk]; exact refMark_any _ _)
        clear hmk
        go_wp2_with fail
        refine (HK.out _).mono ?_
        rintro e w3 ⟨rfl, b3⟩
        have HO4 := Lib.hid (own_below HO.out b3)
        have HW4 := Lib.hid (HW.out.trans (b3.mono hzr))
        clear b3 hcr2
        obtain ⟨hpm1, hpm2⟩ := HPM.out j hlt
        have hul := HUL.out j (by omega)
        have hx1 : (j : Int) < (m : Int) + 1 := by omega
        have hx2 : (j : Int) + 1 < (m : Int) + 1 := by omega
        have hx3 : (P j : Int) ≤ (P (j + 1) : Int) := by omega
        have hx4 : (P (j + 1) : Int) ≤ (s.size : Int) := by omega
        have SF : Hid (∀ W, Below w2.heap.size w2 W → W.cell? ⟨g, j, none⟩ = some (.int .i64 (P j : Int)) ∧ W.cell? ⟨g, j + 1, none⟩ = some (.int .i64 (P (j + 1) : Int))) := Lib.hid (fun W h => ⟨((HG.out.below h hglt).cell j).trans (HCE.out j _ (HPG.out j (by omega))), ((HG.out.below h hglt).cell (j + 1)).trans (HCE.out (j + 1) _ (HPG.out (j + 1) (by omega)))⟩)
        have hD : Below w2.heap.size w2 w3.drew := HW4.out.drew
        have HO5 : Hid (w3.drew.ownsRow w2.heap.size 5 1 u11 (U j).length (byteCells (U j))) := HO4
        go_upto_region 29 with fail
        have hw3 : ((j : Int) + 1).toNat = j + 1 := by omega
        have hw2 : 0 ≤ (j : Int) + 1 := by omega
        have hw1 : IntKind.i64.wrap ((j : Int) + 1) = (j : Int) + 1 := IntWalk.i64_in _ (by omega)
        refine wp_region_held_drew (S := fun W => Below w2.heap.size w2 W) (by kernel_rfl) hD (fun hS0 => ?_)
        generalize w3.drew = W at *
        refine' wpAnyH_take (i := 0) (v := _) (by simp only [List.getElem?_toArray, List.getElem?_cons_zero]; rfl) (by kernel_rfl) (by kernel_rfl) (by kernel_rfl) (by exact fun _ _ _ h => h) (Or.inl ⟨by rfl, ?hy0⟩) hS0 ?rest0
        case hy0 => intro V hSw; clear hSw; go_simp; try with_reducible rfl
        try simp only [Act.put, List.setIfInBounds_toArray, List.set_cons_zero, List.set_cons_succ]
        refine' wpAnyH_take (i := 1) (v := _) (by simp only [List.getElem?_toArray, List.getElem?_cons_succ, List.getElem?_cons_zero]; rfl) (by kernel_rfl) (by kernel_rfl) (by kernel_rfl) (by exact fun _ _ _ h => h) (Or.inl ⟨by rfl, ?hy1⟩) hS0 ?rest1
        case hy1 => intro V hSw; clear hSw; go_simp; try with_reducible rfl
        try simp only [Act.put, List.setIfInBounds_toArray, List.set_cons_zero, List.set_cons_succ]
        refine' wpAnyH_take (i := 2) (v := _) (by simp only [List.getElem?_toArray, List.getElem?_cons_succ, List.getElem?_cons_zero]; rfl) (by kernel_rfl) (by kernel_rfl) (by kernel_rfl) (by exact fun _ _ _ h => h) (Or.inl ⟨by rfl, ?hy2⟩) hS0 ?rest2
        case hy2 => intro V hSw; clear hSw; go_simp; try with_reducible rfl
        try simp only [Act.put, List.setIfInBounds_toArray, List.set_cons_zero, List.set_cons_succ]
        refine' wpAnyH_take (i := 3) (v := _) (by simp only [List.getElem?_toArray, List.getElem?_cons_succ, List.getElem?_cons_zero]; rfl) (by kernel_rfl) (by kernel_rfl) (by kernel_rfl) (by exact fun _ _ _ h => h) (Or.inl ⟨by rfl, ?hy3⟩) hS0 ?rest3
        case hy3 => intro V hSw; clear hSw; go_simp; try with_reducible rfl
        try simp only [Act.put, List.setIfInBounds_toArray, List.set_cons_zero, List.set_cons_succ]
        refine' wpAnyH_take (i := 4) (v := _) (by simp only [List.getElem?_toArray, List.getElem?_cons_succ, List.getElem?_cons_zero]; rfl) (by kernel_rfl) (by kernel_rfl) (by kernel_rfl) (by exact fun _ _ _ h => h) (Or.inl ⟨by rfl, ?hy4⟩) hS0 ?rest4
        case hy4 => intro V hSw; clear hSw; go_simp; try with_reducible rfl
        try simp only [Act.put, List.setIfInBounds_toArray, List.set_cons_zero, List.set_cons_succ]
        refine' wpAnyH_take (i := 5) (v := _) (by simp only [List.getElem?_toArray, List.getElem?_cons_succ, List.getElem?_cons_zero]; rfl) (by kernel_rfl) (by kernel_rfl) (by kernel_rfl) (by exact fun _ _ _ h => h) (Or.inl ⟨by rfl, ?hy5⟩) hS0 ?rest5
        case hy5 => intro V hSw; obtain ⟨f0, f1⟩ := SF.out V hSw; clear hSw; go_simp; try with_reducible rfl
        try simp only [Act.put, List.setIfInBounds_toArray, List.set_cons_zero, List.set_cons_succ]
        refine' wpAnyH_take (i := 6) (v := _) (by simp only [List.getElem?_toArray, List.getElem?_cons_succ, List.getElem?_cons_zero]; rfl) (by kernel_rfl) (by kernel_rfl) (by kernel_rfl) (by exact fun _ _ _ h => h) (Or.inl ⟨by rfl, ?hy6⟩) hS0 ?rest6
        case hy6 => intro V hSw; clear hSw; go_simp; try with_reducible rfl
        try simp only [Act.put, List.setIfInBounds_toArray, List.set_cons_zero, List.set_cons_succ]
        refine' wpAnyH_take (i := 7) (v := _) (by simp only [List.getElem?_toArray, List.getElem?_cons_succ, List.getElem?_cons_zero]; rfl) (by kernel_rfl) (by kernel_rfl) (by kernel_rfl) (by exact fun _ _ _ h => h) (Or.inl ⟨by rfl, ?hy7⟩) hS0 ?rest7
        case hy7 => intro V hSw; clear hSw; go_simp; try with_reducible rfl
        try simp only [Act.put, List.setIfInBounds_toArray, List.set_cons_zero, List.set_cons_succ]
        refine' wpAnyH_take (i := 8) (v := _) (by simp only [List.getElem?_toArray, List.getElem?_cons_succ, List.getElem?_cons_zero]; rfl) (by kernel_rfl) (by kernel_rfl) (by kernel_rfl) (by exact fun _ _ _ h => h) (Or.inl ⟨by rfl, ?hy8⟩) hS0 ?rest8
        case hy8 => intro V hSw; clear hSw; go_simp; try with_reducible rfl
        try simp only [Act.put, List.setIfInBounds_toArray, List.set_cons_zero, List.set_cons_succ]
        refine' wpAnyH_take (i := 9) (v := _) (by simp only [List.getElem?_toArray, List.getElem?_cons_succ, List.getElem?_cons_zero]; rfl) (by kernel_rfl) (by kernel_rfl) (by kernel_rfl) (by exact fun _ _ _ h => h) (Or.inl ⟨by rfl, ?hy9⟩) hS0 ?rest9
        case hy9 => intro V hSw; clear hSw; go_simp; try with_reducible rfl
        try simp only [Act.put, List.setIfInBounds_toArray, List.set_cons_zero, List.set_cons_succ]
        refine' wpAnyH_take (i := 10) (v := _) (by simp only [List.getElem?_toArray, List.getElem?_cons_succ, List.getElem?_cons_zero]; rfl) (by kernel_rfl) (by kernel_rfl) (by kernel_rfl) (by exact fun _ _ _ h => h) (Or.inl ⟨by rfl, ?hy10⟩) hS0 ?rest10
        case hy10 => intro V hSw; obtain ⟨f0, f1⟩ := SF.out V hSw; clear hSw; go_simp; try with_reducible rfl
        try simp only [Act.put, List.setIfInBounds_toArray, List.set_cons_zero, List.set_cons_succ]
        refine' wpAnyH_take (i := 11) (v := _) (by simp only [List.getElem?_toArray, List.getElem?_cons_succ, List.getElem?_cons_zero]; rfl) (by kernel_rfl) (by kernel_rfl) (by kernel_rfl) (by exact fun _ _ _ h => h) (Or.inl ⟨by rfl, ?hy11⟩) hS0 ?rest11
        case hy11 => intro V hSw; clear hSw; go_simp; try with_reducible rfl
        try simp only [Act.put, List.setIfInBounds_toArray, List.set_cons_zero, List.set_cons_succ]
        clear hw1 hw2 hw3
        have hzW := hS0.size
        have hoW := HO5.out
        have hj1 := HJ1.out; have hj2 := HJ2.out; have hj3 := HJ3.out; have hj4 := HJ4.out
        have hsx : (s.extract (P j) (P (j + 1))).size = P (j + 1) - P j := by simp; omega
        refine wpAnyH_ready (rs := [12]) (by kernel_rfl) (by simp) ?_
        refine' AllReadyH.cons (by simp only [List.getElem?_toArray, List.getElem?_cons_succ, List.getElem?_cons_zero]; rfl) (fun K hK => ?_) AllReadyH.nil
        refine step_append_string rfl (.tmp 94) (.tmp 105) 97 9 rfl w2.heap.size 5 j0 Tryz.underlying97 Tryz.underlying9 hj1 hj2 hj3 hj4 u11 (U j).length (byteCells (U j)) rfl hoW (s.extract (P j) (P (j + 1))) rfl ?d1 ?d2 hzW ?_
        case d1 => rw [hsx]; unfold maxLen; omega
        case d2 => rw [hsx]; omega
        intro v' w4 ho4 hg4
        have hb4 : Below w2.heap.size w2 w4 := hS0.grown hg4 hzW (fun r e => (hoW.lt r e).1)
        have HO6 : Hid (w4.ownsRow w2.heap.size 5 1 v' (U (j + 1)).length (byteCells (U (j + 1)))) := Lib.hid (by
          have hcells : strCells (s.extract (P j) (P (j + 1))) = byteCells ((s.data.toList.drop (P j)).take (P (j + 1) - P j)) := by
            rw [strCells_eq, extract_data]
          have hll : ((s.data.toList.drop (P j)).take (P (j + 1) - P j)).length = (s.extract (P j) (P (j + 1))).size := by
            rw [hsx, List.length_take, List.length_drop]
            have : s.data.toList.length = s.size := by simp
            omega
          rw [HE.out, List.length_append, byteCells_append, hll, ← hcells]
          exact ho4)
        have HB4 := Lib.hid hb4
        refine hK.out _ _ hb4 (fun hS2 => ?_)
        try simp only [Act.put, List.setIfInBounds_toArray, List.set_cons_zero, List.set_cons_succ]
        refine' wpAnyH_take (i := 13) (v := _) (by simp only [List.getElem?_toArray, List.getElem?_cons_succ, List.getElem?_cons_zero]; rfl) (by kernel_rfl) (by kernel_rfl) (by kernel_rfl) (by exact fun _ _ _ h => h) (Or.inl ⟨by rfl, ?hy13⟩) hS2 ?rest13
        case hy13 => intro V hSw; clear hSw; go_simp; try with_reducible rfl
        try simp only [Act.put, List.setIfInBounds_toArray, List.set_cons_zero, List.set_cons_succ]
        refine wpAnyH_done (by kernel_rfl) ?_ _
        clear hoW ho4 hg4 hb4 hj1 hj2 hj3 hj4 hsx
        go_wp2_with fail
        go_roundw
        case rel => exact ⟨j + 1, by omega, by go_num, HO6, HB4⟩
        case measure => simp [RowKit.intOf]; omega
    · obtain rfl : j = m := by omega
      have HB : Hid (Below w.heap.size w wr) := Lib.hid (HB2.out.trans (HW.out.mono HB2.out.size))
      by_cases hne : U j = []
      · have HM0 : Hid (MF = []) := Lib.hid (by rw [HMF.out, if_pos hne])
        have hl0 : (U j).length = 0 := by rw [hne]; rfl
        obtain ⟨ao, cp, rfl⟩ := own_slice HO.out
        rw [hl0]
        clear hne hl0
        go_wp2_with fail
        go_ret
        rw [HM0.out]
        exact strRow_nil HB.out
      · have HM0 : Hid (MF = [str (U j)]) := Lib.hid (by rw [HMF.out, if_neg hne]; rfl)
        have hl0 : 0 < (U j).length := List.length_pos_iff.2 hne
        obtain ⟨ao, cp, rfl⟩ := own_slice HO.out
        have hcv := run_convert_own (P := Tryz.prog) wr 97 9 5 Tryz.underlying97 Tryz.underlying5 Tryz.underlying9 rfl HO.out
        have hb0 : (((U j).length : Int) == 0) = false := by rw [beq_eq_false_iff_ne]; omega
        clear hne
        go_wp2_with fail
        go_ret
        rw [HM0.out]
        exact strRow_one (str (U j)) HB.out rfl rfl
end Go.Proofs.YtinmiekbhoemjaaGreatDoor.Ana
