/- Contract: the filter of grams of two or three runes. -/
import Derived.Test.YtfbedonphhiolaaDoorAnaFilt
import Derived.IntWalk
set_option linter.unusedVariables false
namespace Go.Proofs.YtfbedonphhiolaaDoor.Ana
open Go.RowKit Go.Lib FoldP FoldNext AnaP Words Tree Kit Owned

/-- The gram that begins at rune i. -/
def gramT (t : TokD) (k i : Nat) : TokD := { t with text := t.text.extract (posAt t.text.data.toList i) (posAt t.text.data.toList (i + k)) }
theorem grams_eq (t : TokD) (k : Nat) : (gramsF k t.text).map (fun x => ({ t with text := x } : TokD)) = if nR t.text.data.toList ≤ k then [t] else (List.range (nR t.text.data.toList + 1 - k)).map (gramT t k) := by
  unfold gramsF
  split
  · rfl
  · rw [List.map_map]; rfl
theorem range_cells (t : TokD) (k j : Nat) : tokCells ((List.range (j + 1)).map (gramT t k)) = tokCells ((List.range j).map (gramT t k)) ++ (gramT t k j).cells := by
  rw [List.range_succ, List.map_append, tokCells_append]
  simp [tokCells]

set_option maxRecDepth 100000 in
set_option maxHeartbeats 2000000 in
theorem gramsT_any (k : Nat) (hk : k = 2 ∨ k = 3) (t : TokD) (w : World) (bn : Nat) (hs : t.text.size ≤ 1099511627776) (hc : w.cell? ⟨bn, 0, none⟩ = some (.int .i64 (k : Int))) (hbn : bn < w.heap.size) (hT : Tabs w) :
    Calls Tryd.prog 49 #[.agg #[.string t.text, .int .i64 t.pos, .int .i64 t.frm, .int .i64 t.til], .pointer (some ⟨bn, 0, none⟩)] w (TokRow ((gramsF k t.text).map (fun x => ({ t with text := x } : TokD))) w) := by
  obtain ⟨i0, hi, hz0, hz1, hz2⟩ := info_parts infoTok
  rw [grams_eq]
  have hnr := nR_le t.text.data.toList
  have hlen : t.text.data.toList.length = t.text.size := by simp
  rw [hlen] at hnr
  have HC : Hid (∀ W, Below w.heap.size w W → Calls Tryd.prog 45 #[.string t.text] W (OwnInts (posL t.text.data.toList) W)) := Lib.hid (fun W hW => places_any t.text W (by omega) (hT.next hW))
  have HPG : Hid (∀ i, i ≤ nR t.text.data.toList → (posL t.text.data.toList)[i]? = some (posAt t.text.data.toList i)) := Lib.hid (fun i h => posAt_get _ i h)
  have HPM : Hid (∀ i, i + k ≤ nR t.text.data.toList → posAt t.text.data.toList i ≤ posAt t.text.data.toList (i + k) ∧ posAt t.text.data.toList (i + k) ≤ t.text.size) := Lib.hid (fun i h => ⟨posAt_mono _ _ _ (by omega) h, by rw [← hlen]; exact posAt_le _ _⟩)
  have HPL := Lib.hid (posL_len t.text.data.toList)
  have HRC := Lib.hid (range_cells t k)
  have HGT : Hid (∀ i, gramT t k i = ⟨t.text.extract (posAt t.text.data.toList i) (posAt t.text.data.toList (i + k)), t.pos, t.frm, t.til⟩) := Lib.hid (fun i => rfl)
  have HI1 := Lib.hid hi; have HI2 := Lib.hid hz0; have HI3 := Lib.hid hz1; have HI4 := Lib.hid hz2
  clear hT hlen hi hz0 hz1 hz2
  obtain ⟨tx, ps, fr, tl⟩ := t
  dsimp only at *
  generalize gramT ⟨tx, ps, fr, tl⟩ k = G at *
  generalize nR tx.data.toList = n at *
  generalize posAt tx.data.toList = P at *
  generalize posL tx.data.toList = pl at *
  by_cases hnk : n ≤ k
  · rw [if_pos hnk]
    go_enter Tryd.func49, Tryd.ntmps49
    go_wp2_with fail
    refine (HC.out _ ((Below.refl _ _).alloc (Nat.le_refl _) _)).mono ?_
    rintro e w1 ⟨v, rfl, hv, b1⟩
    obtain ⟨g, cap, rfl, hg1, hg2, hc1, hc2, hcell⟩ := ints_cell hv (by rw [HPL.out]; omega)
    have HB1 := Lib.hid (((Below.refl _ w).alloc (Nat.le_refl _) _).trans (b1.mono (by simp)))
    have BK := Lib.hid ((Blk.new w 43 #[.string tx, .int .i64 ps, .int .i64 fr, .int .i64 tl]).below b1 (by simp))
    have hcn : w1.cell? ⟨bn, 0, none⟩ = some (.int .i64 (k : Int)) := (HB1.out.cell (p := ⟨bn, 0, none⟩) hbn).trans hc
    rw [HPL.out] at hc1 ⊢
    obtain ⟨c0, c1, c2, c3⟩ := blk4 BK.out
    clear b1 hv hcell
    go_wp2_with fail
    go_ret
    exact tokRow_one tx ps fr tl HB1.out rfl rfl
  · rw [if_neg hnk]
    go_enter Tryd.func49, Tryd.ntmps49
    go_wp2_with fail
    refine (HC.out _ ((Below.refl _ _).alloc (Nat.le_refl _) _)).mono ?_
    rintro e w1 ⟨v, rfl, hv, b1⟩
    obtain ⟨g, cap, rfl, hg1, hg2, hc1, hc2, hcell⟩ := ints_cell hv (by rw [HPL.out]; omega)
    have HB1 := Lib.hid (((Below.refl _ w).alloc (Nat.le_refl _) _).trans (b1.mono (by simp)))
    have BK := Lib.hid ((Blk.new w 43 #[.string tx, .int .i64 ps, .int .i64 fr, .int .i64 tl]).below b1 (by simp))
    have hcn : w1.cell? ⟨bn, 0, none⟩ = some (.int .i64 (k : Int)) := (HB1.out.cell (p := ⟨bn, 0, none⟩) hbn).trans hc
    have HCN := Lib.hid hcn
    have HCE := Lib.hid hcell
    rw [HPL.out] at hc1 ⊢
    have hw1 : w.heap.size + 1 ≤ w1.heap.size := by have := b1.size; simpa using this
    unfold maxLen at hc2
    clear b1 hv hcell
    go_wp2_with fail
    clear hcn
    go_loopw [5, 6, 7] (fun o i _ wr => ∃ j : Nat, j ≤ n + 1 - k ∧ i = .int .i64 j ∧ Hid (wr.ownsRow w1.heap.size 43 4 o j (tokCells ((List.range j).map G))) ∧ Hid (Below w1.heap.size w1 wr)) (fun _ i _ _ => n + 1 - k - (RowKit.intOf i).toNat)
    case atStart => exact ⟨0, by omega, rfl, Lib.hid (World.ownsRow_nil _ _ _ _), Lib.hid (Below.refl _ _)⟩
    case round =>
      obtain ⟨j, hj, rfl, HO, HW⟩ := hrel
      have hzr := HW.out.size
      have hcn : wr.cell? ⟨bn, 0, none⟩ = some (.int .i64 (k : Int)) := (HW.out.cell (p := ⟨bn, 0, none⟩) (by show bn < _; omega)).trans HCN.out
      by_cases hlt : j < n + 1 - k
      · obtain ⟨c0, c1, c2, c3⟩ := blk4 (BK.out.below HW.out (by omega))
        have hp1 : wr.cell? ⟨g, j, none⟩ = some (.int .i64 (P j : Int)) := (HW.out.cell (p := ⟨g, j, none⟩) hg2).trans (HCE.out j _ (HPG.out j (by omega)))
        have hp2 : wr.cell? ⟨g, j + k, none⟩ = some (.int .i64 (P (j + k) : Int)) := (HW.out.cell (p := ⟨g, j + k, none⟩) hg2).trans (HCE.out (j + k) _ (HPG.out (j + k) (by omega)))
        have hpm := HPM.out j (by omega)
        have hglt : g < wr.heap.size := by omega
        have hblt : bn < wr.heap.size := by omega
        have hnlt : w.heap.size < wr.heap.size := by omega
        go_upto_region 9 with fail
        have hBA : Below wr.heap.size wr (wr.alloc (.cells #[.string tx, .int .i64 ps, .int .i64 fr, .int .i64 tl] 43)) := (Below.refl _ _).alloc (Nat.le_refl _) _
        have BN := Lib.hid (Blk.new wr 43 #[.string tx, .int .i64 ps, .int .i64 fr, .int .i64 tl])
        have hd0 := (hBA.cell (p := ⟨w.heap.size, 0, none⟩) hnlt).trans c0
        have hd1 := (hBA.cell (p := ⟨g, j, none⟩) hglt).trans hp1
        have hd2 := (hBA.cell (p := ⟨g, j + k, none⟩) hglt).trans hp2
        have hd3 := (hBA.cell (p := ⟨bn, 0, none⟩) hblt).trans hcn
        have HOA := Lib.hid (HO.out.alloc (.cells #[.string tx, .int .i64 ps, .int .i64 fr, .int .i64 tl] 43))
        have HWA := Lib.hid (HW.out.alloc hzr (.cells #[.string tx, .int .i64 ps, .int .i64 fr, .int .i64 tl] 43))
        have hsa : (wr.alloc (.cells #[.string tx, .int .i64 ps, .int .i64 fr, .int .i64 tl] 43)).heap.size = wr.heap.size + 1 := by simp
        have HSA := Lib.hid hsa
        clear hBA hsa c0 c1 c2 c3 hp1 hp2 hcn
        generalize wr.alloc (.cells #[.string tx, .int .i64 ps, .int .i64 fr, .int .i64 tl] 43) = WA at *
        change ({ WA with drawn := WA.drawn + 1 } : World).cell? _ = _ at hd0 hd1 hd2 hd3
        have BN2 : Hid (Blk ({ WA with drawn := WA.drawn + 1 } : World) wr.heap.size 43 #[.string tx, .int .i64 ps, .int .i64 fr, .int .i64 tl]) := BN
        have HO2 : Hid (({ WA with drawn := WA.drawn + 1 } : World).ownsRow w1.heap.size 43 4 u5 j (tokCells ((List.range j).map G))) := HOA
        have HW2 : Hid (Below w1.heap.size w1 ({ WA with drawn := WA.drawn + 1 } : World)) := Lib.hid (HWA.out.trans ⟨rfl, rfl, rfl, Nat.le_refl _, fun _ _ => rfl⟩)
        have HS2 : Hid (({ WA with drawn := WA.drawn + 1 } : World).heap.size = wr.heap.size + 1) := HSA
        clear BN HOA HWA HSA
        obtain ⟨hpm1, hpm2⟩ := hpm
        have hx1 : (j : Int) < (n : Int) + 1 := by omega
        have hx2 : (j : Int) + (k : Int) < (n : Int) + 1 := by omega
        have hx3 : (P j : Int) ≤ (P (j + k) : Int) := by omega
        have hx4 : (P (j + k) : Int) ≤ (tx.size : Int) := by omega
        refine wp_region_still_tail 14 (by kernel_rfl) (by kernel_rfl) ?_
        simp only [List.take_succ_cons, List.take_zero, List.drop_succ_cons, List.drop_zero]
        generalize ({ WA with drawn := WA.drawn + 1 } : World) = W at *
        have hy3 : ((j : Int) + (k : Int)).toNat = j + k := by omega
        have hy2 : 0 ≤ (j : Int) + (k : Int) := by omega
        have hy1 : IntKind.i64.wrap ((j : Int) + (k : Int)) = (j : Int) + (k : Int) := IntWalk.i64_in _ (by omega)
        repeat still_step
        clear hy1 hy2 hy3
        refine wpStill_nil ?_
        change wpList _ _ _ _ _ _
        have e0 : W.cell? ⟨wr.heap.size, 0, none⟩ = some (.string tx) := BN2.out.cell 0
        have f0 : W.frozen? ⟨wr.heap.size, 0, none⟩ = false := BN2.out.frozen 0
        clear hd0 hd1 hd2 hd3
        go_upto_region 10 with fail
        have BN3 : Hid (Blk (W.setCell ⟨wr.heap.size, 0, none⟩ (.string (tx.extract (P j) (P (j + k))))) wr.heap.size 43 #[.string (tx.extract (P j) (P (j + k))), .int .i64 ps, .int .i64 fr, .int .i64 tl]) := Lib.hid (BN2.out.set_ 0 _)
        have HO3 : Hid ((W.setCell ⟨wr.heap.size, 0, none⟩ (.string (tx.extract (P j) (P (j + k))))).ownsRow w1.heap.size 43 4 u5 j (tokCells ((List.range j).map G))) :=
          Lib.hid (own_setCell_ne HO2.out (a := ⟨wr.heap.size, 0, none⟩) (fun e => absurd (HO.out.lt _ e).2 (Nat.lt_irrefl _)) _)
        have HW3 : Hid (Below w1.heap.size w1 (W.setCell ⟨wr.heap.size, 0, none⟩ (.string (tx.extract (P j) (P (j + k)))))) := Lib.hid (HW2.out.setCell (p := ⟨wr.heap.size, 0, none⟩) hzr _)
        clear e0 f0 BN2 HO2 HW2 HS2
        generalize W.setCell ⟨wr.heap.size, 0, none⟩ (.string (tx.extract (P j) (P (j + k)))) = W3 at *
        obtain ⟨c0, c1, c2, c3⟩ := blk4 BN3.out
        have ho := HO3.out
        have hi := HI1.out; have hz0 := HI2.out; have hz1 := HI3.out; have hz2 := HI4.out
        have hz3 := HW3.out.size
        go_wp2_with (at_builtin; refine wpList_append_own _ rfl (.tmp 41) (.tmp 43) 22 rfl w1.heap.size 43 i0 (.agg #[.string ⟨#[]⟩, .int .i64 0, .int .i64 0, .int .i64 0]) 4 40 Tryd.underlying22 hi hz0 hz1 hz2 rfl (by decide) _ j (tokCells ((List.range j).map G)) rfl (ho.alloc _) ⟨W3.heap.size, 0, none⟩ 1 1 [.string (tx.extract (P j) (P (j + k))), .int .i64 ps, .int .i64 fr, .int .i64 tl] rfl rfl ?d1 ?d2 ?d3 ?d4 ?d5 ?_)
        case d1 => intro q u hu; exact cells_new W3 [.string (tx.extract (P j) (P (j + k))), .int .i64 ps, .int .i64 fr, .int .i64 tl] _ q u hu
        case d2 => intro u hu; exact tok_one (ts := [⟨tx.extract (P j) (P (j + k)), ps, fr, tl⟩]) hu
        case d3 => unfold maxLen; omega
        case d4 => omega
        case d5 => simp; omega
        intro v' w4 ho4 hg4 _
        have hb4 : Below w1.heap.size w1 w4 := (HW3.out.alloc hz3 _).grown hg4 (by simp; omega) (fun r e => (ho.lt r e).1)
        have HO4 : Hid (w4.ownsRow w1.heap.size 43 4 v' (j + 1) (tokCells ((List.range (j + 1)).map G))) := Lib.hid (by rw [HRC.out, HGT.out]; exact ho4)
        have HB4 := Lib.hid hb4
        clear ho ho4 hg4 hb4 c0 c1 c2 c3 hi hz0 hz1 hz2
        go_wp2_with fail
        go_roundw
        case rel => exact ⟨j + 1, by omega, by go_num, HO4, HB4⟩
        case measure => simp [RowKit.intOf]; omega
      · obtain rfl : j = n + 1 - k := by omega
        have HB : Hid (Below w.heap.size w wr) := Lib.hid (HB1.out.trans (HW.out.mono HB1.out.size))
        obtain ⟨ao, cp, rfl⟩ : ∃ ao cp, u5 = .slice ao (n + 1 - k) cp := by
          rcases HO.out.2 with ⟨rfl, h0⟩ | ⟨g', cap', cur, rfl, _⟩
          · exact ⟨none, 0, by rw [h0]⟩
          · exact ⟨_, _, rfl⟩
        have HOW := Lib.hid (Reads.of_own HO.out)
        go_wp2_with fail
        go_ret
        refine ⟨ao, cp, ?_, ?_, HB.out⟩
        · simp
        · have := HOW.out
          simpa using this
end Go.Proofs.YtfbedonphhiolaaDoor.Ana
