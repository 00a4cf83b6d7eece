/- Contracts: filters that make at most one token of one: lower, stop, short. Contract: the filter of grams of two or three runes. Contract: the filter that leaves marks out: a builder. -/
import Derived.Test.YtinmiekbhoemjaaGreatDoorAnaStop
import Derived.Test.YtinmiekbhoemjaaGreatDoorPack21
import Derived.Test.YtinmiekbhoemjaaGreatDoorPack23
import Derived.StillTailTactics
import Derived.Outline
import Derived.IntWalk
import Derived.Deep.RegionHeld3
section
set_option linter.unusedVariables false
namespace Go.Proofs.YtinmiekbhoemjaaGreatDoor.Ana
open Go.RowKit Go.Lib FoldP FoldNext FoldRefFold FoldFold AnaP Words Tree Kit Owned

/-- A row of tokens is answered. -/
def TokRow (ts : List TokD) (w : World) (e : Ending) (w' : World) : Prop := ∃ ao c, e = .returned (.slice ao ts.length c) ∧ Reads w' w'.heap.size 4 ao ts.length (tokCells ts) ∧ Below w.heap.size w w'
theorem row_one (W : World) (tx : ByteArray) (ps fr tl : Int) : Reads (W.alloc (.cells #[.string tx, .int .i64 ps, .int .i64 fr, .int .i64 tl] 117)) (W.alloc (.cells #[.string tx, .int .i64 ps, .int .i64 fr, .int .i64 tl] 117)).heap.size 4 (some ⟨W.heap.size, 0, none⟩) 1 (tokCells [⟨tx, ps, fr, tl⟩]) :=
  ⟨rfl, fun _ => ⟨_, rfl, by simp, fun j u hu => cells_new W [.string tx, .int .i64 ps, .int .i64 fr, .int .i64 tl] _ j u hu⟩⟩
theorem tokRow_one {w W : World} {e : Ending} (tx : ByteArray) (ps fr tl : Int) {g : Nat} (h : Below w.heap.size w W) (hg : g = W.heap.size) (he : e = .returned (.slice (some ⟨g, 0, none⟩) 1 1)) : TokRow [⟨tx, ps, fr, tl⟩] w e (W.alloc (.cells #[.string tx, .int .i64 ps, .int .i64 fr, .int .i64 tl] 117)) := by
  subst hg
  exact ⟨_, _, he, row_one W tx ps fr tl, h.alloc h.size _⟩
theorem tokRow_nil {w w' : World} (h : Below w.heap.size w w') : TokRow [] w (.returned (.slice none 0 0)) w' := ⟨none, 0, rfl, Reads.none_, h⟩
/-- The block of a token's variable, cell by cell. -/
theorem blk4 {w : World} {g : Nat} {t : TypeId} {v0 v1 v2 v3 : Value} (h : Blk w g t #[v0, v1, v2, v3]) : w.cell? ⟨g, 0, none⟩ = some v0 ∧ w.cell? ⟨g, 1, none⟩ = some v1 ∧ w.cell? ⟨g, 2, none⟩ = some v2 ∧ w.cell? ⟨g, 3, none⟩ = some v3 := ⟨h.cell 0, h.cell 1, h.cell 2, h.cell 3⟩

set_option maxRecDepth 100000 in
theorem lowerT_any (t : TokD) (w : World) (hs : t.text.size ≤ 17592186044415) (hT : Tabs w) :
    Calls Tryz.prog 69 #[.agg #[.string t.text, .int .i64 t.pos, .int .i64 t.frm, .int .i64 t.til]] w (TokRow (oneT 10 t) w) := by
  obtain ⟨tx, ps, fr, tl⟩ := t
  dsimp only at hs ⊢
  have e : oneT 10 ⟨tx, ps, fr, tl⟩ = [⟨str (foldL tx.data.toList), ps, fr, tl⟩] := rfl
  rw [e]
  have HC : Hid (∀ W, Below w.heap.size w W → Calls Tryz.prog 84 #[.string tx] W (StrBelow (foldL tx.data.toList) W)) := Lib.hid (fun W hW => callsIn_wide.1 (fold_in tx W (by omega) (hT.next hW)))
  clear hT
  go_enter Tryz.func69, Tryz.ntmps69
  go_wp2_with fail
  refine (HC.out _ ((Below.refl _ _).alloc (Nat.le_refl _) _)).mono ?_
  rintro e w1 ⟨rfl, b1⟩
  have HB1 := Lib.hid (((Below.refl _ w).alloc (Nat.le_refl _) _).trans (b1.mono (by simp)))
  have BK := Lib.hid ((Blk.new w 117 #[.string tx, .int .i64 ps, .int .i64 fr, .int .i64 tl]).below b1 (by simp))
  obtain ⟨c0, c1, c2, c3⟩ := blk4 BK.out
  have f0 : w1.frozen? ⟨w.heap.size, 0, none⟩ = false := BK.out.frozen 0
  clear b1
  go_wp2_with fail
  go_ret
  exact tokRow_one (str (foldL tx.data.toList)) ps fr tl (HB1.out.setCell (p := ⟨w.heap.size, 0, none⟩) (Nat.le_refl _) _) (by simp [World.setCell]) rfl

set_option maxRecDepth 100000 in
theorem stopT_any (t : TokD) (w : World) :
    Calls Tryz.prog 70 #[.agg #[.string t.text, .int .i64 t.pos, .int .i64 t.frm, .int .i64 t.til]] w (TokRow (oneT 11 t) w) := by
  obtain ⟨tx, ps, fr, tl⟩ := t
  dsimp only
  have e : oneT 11 ⟨tx, ps, fr, tl⟩ = if stopF tx then [] else [⟨tx, ps, fr, tl⟩] := by
    unfold oneT oneF
    rw [if_neg (by omega), if_pos rfl]
    dsimp only
    split <;> rfl
  rw [e]
  have HC : Hid (∀ W, Calls Tryz.prog 85 #[.string tx] W (PureB (stopF tx) W)) := Lib.hid (fun W => stop_any tx W)
  cases hq : stopF tx with
  | true =>
    rw [hq] at HC
    have HQ := Lib.hid hq; clear hq
    rw [if_pos rfl]
    go_enter Tryz.func70, Tryz.ntmps70
    go_wp2_with fail
    refine (HC.out _).mono ?_
    rintro e w1 ⟨rfl, rfl⟩
    go_wp2_with fail
    go_ret
    exact tokRow_nil ((Below.refl _ w).alloc (Nat.le_refl _) _)
  | false =>
    rw [hq] at HC
    have HQ := Lib.hid hq; clear hq
    rw [if_neg (by decide)]
    go_enter Tryz.func70, Tryz.ntmps70
    go_wp2_with fail
    refine (HC.out _).mono ?_
    rintro e w1 ⟨rfl, rfl⟩
    go_wp2_with fail
    go_ret
    exact tokRow_one tx ps fr tl ((Below.refl _ w).alloc (Nat.le_refl _) _) (by simp) rfl

/-- The cells of an own row of numbers. -/
theorem ints_cell {w : World} {B n : Nat} {v : Value} {l : List Nat} (h : w.ownsRow B 3 1 v n (l.map cellN)) (hn : 0 < n) : ∃ g cap, v = .slice (some ⟨g, 0, none⟩) n cap ∧ B ≤ g ∧ g < w.heap.size ∧ n ≤ cap ∧ cap ≤ maxLen ∧ ∀ (i p : Nat), l[i]? = some p → w.cell? ⟨g, i, none⟩ = some (.int .i64 (p : Int)) := by
  rcases h.2 with ⟨_, h0⟩ | ⟨g, cap, cur, rfl, hb, hg, hc, hm, _⟩
  · omega
  · refine ⟨g, cap, rfl, hb, (Array.getElem?_eq_some_iff.1 hg).1, hc, hm, fun i p hp => ?_⟩
    have := h.cells (g := g) rfl i (cellN p) (by rw [List.getElem?_map, hp]; rfl)
    have hadd : (⟨g, 0, none⟩ : Addr).add i = ⟨g, i, none⟩ := by unfold Addr.add; split <;> simp_all
    rwa [hadd] at this

set_option maxRecDepth 100000 in
set_option maxHeartbeats 1000000 in
theorem shortT_any (t : TokD) (w : World) (hs : t.text.size ≤ 17592186044415) (hT : Tabs w) :
    Calls Tryz.prog 72 #[.agg #[.string t.text, .int .i64 t.pos, .int .i64 t.frm, .int .i64 t.til]] w (TokRow (oneT 14 t) w) := by
  obtain ⟨tx, ps, fr, tl⟩ := t
  dsimp only at hs ⊢
  have e : oneT 14 ⟨tx, ps, fr, tl⟩ = if 16 < nR tx.data.toList then [⟨tx.extract 0 (posAt tx.data.toList 16), ps, fr, tl⟩] else [⟨tx, ps, fr, tl⟩] := by
    unfold oneT oneF
    rw [if_neg (by omega), if_neg (by omega), if_neg (by omega), if_neg (by omega), if_pos rfl]
    dsimp only
    unfold shortF
    split <;> rfl
  rw [e]
  have hnr := nR_le tx.data.toList
  have hlen : tx.data.toList.length = tx.size := by simp
  rw [hlen] at hnr
  have HC : Hid (∀ W, Below w.heap.size w W → Calls Tryz.prog 87 #[.string tx] W (OwnInts (posL tx.data.toList) W)) := Lib.hid (fun W hW => places_any tx W hs (hT.next hW))
  have hpe : posAt tx.data.toList 16 ≤ tx.size := by rw [← hlen]; exact posAt_le _ _
  have HG : Hid (16 < nR tx.data.toList → (posL tx.data.toList)[16]? = some (posAt tx.data.toList 16)) := Lib.hid (fun h => posAt_get _ 16 (by omega))
  have HPL := Lib.hid (posL_len tx.data.toList)
  clear hT hlen e
  generalize nR tx.data.toList = n at *
  generalize posAt tx.data.toList 16 = p16 at *
  generalize posL tx.data.toList = pl at *
  by_cases hlt : 16 < n
  · rw [if_pos hlt]
    have h16 := HG.out hlt
    have H16 := Lib.hid h16; clear h16
    go_enter Tryz.func72, Tryz.ntmps72
    go_wp2_with fail
    refine (HC.out _ ((Below.refl _ _).alloc (Nat.le_refl _) _)).mono ?_
    rintro e w1 ⟨v, rfl, hv, b1⟩
    obtain ⟨g, cap, rfl, hg1, hg2, hc1, hc2, hcell⟩ := ints_cell hv (by rw [HPL.out]; omega)
    have HB1 := Lib.hid (((Below.refl _ w).alloc (Nat.le_refl _) _).trans (b1.mono (by simp)))
    have BK := Lib.hid ((Blk.new w 117 #[.string tx, .int .i64 ps, .int .i64 fr, .int .i64 tl]).below b1 (by simp))
    rw [HPL.out] at hc1 ⊢
    have HCE := Lib.hid hcell
    clear b1 hv hcell
    have h16 : w1.cell? ⟨g, 16, none⟩ = some (.int .i64 (p16 : Int)) := HCE.out 16 p16 H16.out
    obtain ⟨c0, c1, c2, c3⟩ := blk4 BK.out
    have f0 : w1.frozen? ⟨w.heap.size, 0, none⟩ = false := BK.out.frozen 0
    go_upto_region 3 with fail
    change ({ w1 with drawn := w1.drawn + 1 } : World).cell? _ = _ at c0 c1 c2 c3 h16
    change ({ w1 with drawn := w1.drawn + 1 } : World).frozen? _ = _ at f0
    have HB2 : Hid (Below w.heap.size w ({ w1 with drawn := w1.drawn + 1 } : World)) := Lib.hid (HB1.out.trans ⟨rfl, rfl, rfl, Nat.le_refl _, fun _ _ => rfl⟩)
    refine wp_region_still_tail 7 (by kernel_rfl) (by kernel_rfl) ?_
    simp only [List.take_succ_cons, List.take_zero, List.drop_succ_cons, List.drop_zero]
    clear BK HB1 HCE hg2
    generalize ({ w1 with drawn := w1.drawn + 1 } : World) = W at *
    have hi1 : (16 : Int) < ((n + 1 : Nat) : Int) := by omega
    have hi2 : (16 : Int) < (n : Int) + 1 := by omega
    have hi3 : (p16 : Int) ≤ (tx.size : Int) := by omega
    repeat still_step
    refine wpStill_nil ?_
    change wpList _ _ _ _ _ _
    go_wp2_with fail
    go_ret
    exact tokRow_one (tx.extract 0 p16) ps fr tl (HB2.out.setCell (p := ⟨w.heap.size, 0, none⟩) (Nat.le_refl _) _) (by simp [World.setCell]) rfl
  · rw [if_neg hlt]
    go_enter Tryz.func72, Tryz.ntmps72
    go_wp2_with fail
    refine (HC.out _ ((Below.refl _ _).alloc (Nat.le_refl _) _)).mono ?_
    rintro e w1 ⟨v, rfl, hv, b1⟩
    obtain ⟨g, cap, rfl, hg1, hg2, hc1, hc2, hcell⟩ := ints_cell hv (by rw [HPL.out]; omega)
    have HB1 := Lib.hid (((Below.refl _ w).alloc (Nat.le_refl _) _).trans (b1.mono (by simp)))
    have BK := Lib.hid ((Blk.new w 117 #[.string tx, .int .i64 ps, .int .i64 fr, .int .i64 tl]).below b1 (by simp))
    rw [HPL.out] at hc1 ⊢
    have HCE := Lib.hid hcell
    clear b1 hv hcell
    obtain ⟨c0, c1, c2, c3⟩ := blk4 BK.out
    go_wp2_with fail
    go_ret
    exact tokRow_one tx ps fr tl HB1.out rfl rfl
end Go.Proofs.YtinmiekbhoemjaaGreatDoor.Ana
end
section
set_option linter.unusedVariables false
namespace Go.Proofs.YtinmiekbhoemjaaGreatDoor.Ana
open Go.RowKit Go.Lib FoldP FoldNext AnaP Words Tree Kit Owned

/-- The gram that begins at rune i. -/
def gramT (t : TokD) (k i : Nat) : TokD := { t with text := t.text.extract (posAt t.text.data.toList i) (posAt t.text.data.toList (i + k)) }
theorem grams_eq (t : TokD) (k : Nat) : (gramsF k t.text).map (fun x => ({ t with text := x } : TokD)) = if nR t.text.data.toList ≤ k then [t] else (List.range (nR t.text.data.toList + 1 - k)).map (gramT t k) := by
  unfold gramsF
  split
  · rfl
  · rw [List.map_map]; rfl
theorem range_cells (t : TokD) (k j : Nat) : tokCells ((List.range (j + 1)).map (gramT t k)) = tokCells ((List.range j).map (gramT t k)) ++ (gramT t k j).cells := by
  rw [List.range_succ, List.map_append, tokCells_append]
  simp [tokCells]

set_option maxRecDepth 100000 in
set_option maxHeartbeats 2000000 in
theorem gramsT_any (k : Nat) (hk : k = 2 ∨ k = 3) (t : TokD) (w : World) (bn : Nat) (hs : t.text.size ≤ 1099511627776) (hc : w.cell? ⟨bn, 0, none⟩ = some (.int .i64 (k : Int))) (hbn : bn < w.heap.size) (hT : Tabs w) :
    Calls Tryz.prog 86 #[.agg #[.string t.text, .int .i64 t.pos, .int .i64 t.frm, .int .i64 t.til], .pointer (some ⟨bn, 0, none⟩)] w (TokRow ((gramsF k t.text).map (fun x => ({ t with text := x } : TokD))) w) := by
  obtain ⟨i0, hi, hz0, hz1, hz2⟩ := info_parts infoTok
  rw [grams_eq]
  have hnr := nR_le t.text.data.toList
  have hlen : t.text.data.toList.length = t.text.size := by simp
  rw [hlen] at hnr
  have HC : Hid (∀ W, Below w.heap.size w W → Calls Tryz.prog 87 #[.string t.text] W (OwnInts (posL t.text.data.toList) W)) := Lib.hid (fun W hW => places_any t.text W (by omega) (hT.next hW))
  have HPG : Hid (∀ i, i ≤ nR t.text.data.toList → (posL t.text.data.toList)[i]? = some (posAt t.text.data.toList i)) := Lib.hid (fun i h => posAt_get _ i h)
  have HPM : Hid (∀ i, i + k ≤ nR t.text.data.toList → posAt t.text.data.toList i ≤ posAt t.text.data.toList (i + k) ∧ posAt t.text.data.toList (i + k) ≤ t.text.size) := Lib.hid (fun i h => ⟨posAt_mono _ _ _ (by omega) h, by rw [← hlen]; exact posAt_le _ _⟩)
  have HPL := Lib.hid (posL_len t.text.data.toList)
  have HRC := Lib.hid (range_cells t k)
  have HGT : Hid (∀ i, gramT t k i = ⟨t.text.extract (posAt t.text.data.toList i) (posAt t.text.data.toList (i + k)), t.pos, t.frm, t.til⟩) := Lib.hid (fun i => rfl)
  have HI1 := Lib.hid hi; have HI2 := Lib.hid hz0; have HI3 := Lib.hid hz1; have HI4 := Lib.hid hz2
  clear hT hlen hi hz0 hz1 hz2
  obtain ⟨tx, ps, fr, tl⟩ := t
  dsimp only at *
  generalize gramT ⟨tx, ps, fr, tl⟩ k = G at *
  generalize nR tx.data.toList = n at *
  generalize posAt tx.data.toList = P at *
  generalize posL tx.data.toList = pl at *
  by_cases hnk : n ≤ k
  · rw [if_pos hnk]
    go_enter Tryz.func86, Tryz.ntmps86
    go_wp2_with fail
    refine (HC.out _ ((Below.refl _ _).alloc (Nat.le_refl _) _)).mono ?_
    rintro e w1 ⟨v, rfl, hv, b1⟩
    obtain ⟨g, cap, rfl, hg1, hg2, hc1, hc2, hcell⟩ := ints_cell hv (by rw [HPL.out]; omega)
    have HB1 := Lib.hid (((Below.refl _ w).alloc (Nat.le_refl _) _).trans (b1.mono (by simp)))
    have BK := Lib.hid ((Blk.new w 117 #[.string tx, .int .i64 ps, .int .i64 fr, .int .i64 tl]).below b1 (by simp))
    have hcn : w1.cell? ⟨bn, 0, none⟩ = some (.int .i64 (k : Int)) := (HB1.out.cell (p := ⟨bn, 0, none⟩) hbn).trans hc
    rw [HPL.out] at hc1 ⊢
    obtain ⟨c0, c1, c2, c3⟩ := blk4 BK.out
    clear b1 hv hcell
    go_wp2_with fail
    go_ret
    exact tokRow_one tx ps fr tl HB1.out rfl rfl
  · rw [if_neg hnk]
    go_enter Tryz.func86, Tryz.ntmps86
    go_wp2_with fail
    refine (HC.out _ ((Below.refl _ _).alloc (Nat.le_refl _) _)).mono ?_
    rintro e w1 ⟨v, rfl, hv, b1⟩
    obtain ⟨g, cap, rfl, hg1, hg2, hc1, hc2, hcell⟩ := ints_cell hv (by rw [HPL.out]; omega)
    have HB1 := Lib.hid (((Below.refl _ w).alloc (Nat.le_refl _) _).trans (b1.mono (by simp)))
    have BK := Lib.hid ((Blk.new w 117 #[.string tx, .int .i64 ps, .int .i64 fr, .int .i64 tl]).below b1 (by simp))
    have hcn : w1.cell? ⟨bn, 0, none⟩ = some (.int .i64 (k : Int)) := (HB1.out.cell (p := ⟨bn, 0, none⟩) hbn).trans hc
    have HCN := Lib.hid hcn
    have HCE := Lib.hid hcell
    rw [HPL.out] at hc1 ⊢
    have hw1 : w.heap.size + 1 ≤ w1.heap.size := by have := b1.size; simpa using this
    unfold maxLen at hc2
    clear b1 hv hcell
    go_wp2_with fail
    clear hcn
    go_loopw [5, 6, 7] (fun o i _ wr => ∃ j : Nat, j ≤ n + 1 - k ∧ i = .int .i64 j ∧ Hid (wr.ownsRow w1.heap.size 117 4 o j (tokCells ((List.range j).map G))) ∧ Hid (Below w1.heap.size w1 wr)) (fun _ i _ _ => n + 1 - k - (RowKit.intOf i).toNat)
    case atStart => exact ⟨0, by omega, rfl, Lib.hid (World.ownsRow_nil _ _ _ _), Lib.hid (Below.refl _ _)⟩
    case round =>
      obtain ⟨j, hj, rfl, HO, HW⟩ := hrel
      have hzr := HW.out.size
      have hcn : wr.cell? ⟨bn, 0, none⟩ = some (.int .i64 (k : Int)) := (HW.out.cell (p := ⟨bn, 0, none⟩) (by show bn < _; omega)).trans HCN.out
      by_cases hlt : j < n + 1 - k
      · obtain ⟨c0, c1, c2, c3⟩ := blk4 (BK.out.below HW.out (by omega))
        have hp1 : wr.cell? ⟨g, j, none⟩ = some (.int .i64 (P j : Int)) := (HW.out.cell (p := ⟨g, j, none⟩) hg2).trans (HCE.out j _ (HPG.out j (by omega)))
        have hp2 : wr.cell? ⟨g, j + k, none⟩ = some (.int .i64 (P (j + k) : Int)) := (HW.out.cell (p := ⟨g, j + k, none⟩) hg2).trans (HCE.out (j + k) _ (HPG.out (j + k) (by omega)))
        have hpm := HPM.out j (by omega)
        have hglt : g < wr.heap.size := by omega
        have hblt : bn < wr.heap.size := by omega
        have hnlt : w.heap.size < wr.heap.size := by omega
        go_upto_region 9 with fail
        have hBA : Below wr.heap.size wr (wr.alloc (.cells #[.string tx, .int .i64 ps, .int .i64 fr, .int .i64 tl] 117)) := (Below.refl _ _).alloc (Nat.le_refl _) _
        have BN := Lib.hid (Blk.new wr 117 #[.string tx, .int .i64 ps, .int .i64 fr, .int .i64 tl])
        have hd0 := (hBA.cell (p := ⟨w.heap.size, 0, none⟩) hnlt).trans c0
        have hd1 := (hBA.cell (p := ⟨g, j, none⟩) hglt).trans hp1
        have hd2 := (hBA.cell (p := ⟨g, j + k, none⟩) hglt).trans hp2
        have hd3 := (hBA.cell (p := ⟨bn, 0, none⟩) hblt).trans hcn
        have HOA := Lib.hid (HO.out.alloc (.cells #[.string tx, .int .i64 ps, .int .i64 fr, .int .i64 tl] 117))
        have HWA := Lib.hid (HW.out.alloc hzr (.cells #[.string tx, .int .i64 ps, .int .i64 fr, .int .i64 tl] 117))
        have hsa : (wr.alloc (.cells #[.string tx, .int .i64 ps, .int .i64 fr, .int .i64 tl] 117)).heap.size = wr.heap.size + 1 := by simp
        have HSA := Lib.hid hsa
        clear hBA hsa c0 c1 c2 c3 hp1 hp2 hcn
        generalize wr.alloc (.cells #[.string tx, .int .i64 ps, .int .i64 fr, .int .i64 tl] 117) = WA at *
        change ({ WA with drawn := WA.drawn + 1 } : World).cell? _ = _ at hd0 hd1 hd2 hd3
        have BN2 : Hid (Blk ({ WA with drawn := WA.drawn + 1 } : World) wr.heap.size 117 #[.string tx, .int .i64 ps, .int .i64 fr, .int .i64 tl]) := BN
        have HO2 : Hid (({ WA with drawn := WA.drawn + 1 } : World).ownsRow w1.heap.size 117 4 u5 j (tokCells ((List.range j).map G))) := HOA
        have HW2 : Hid (Below w1.heap.size w1 ({ WA with drawn := WA.drawn + 1 } : World)) := Lib.hid (HWA.out.trans ⟨rfl, rfl, rfl, Nat.le_refl _, fun _ _ => rfl⟩)
        have HS2 : Hid (({ WA with drawn := WA.drawn + 1 } : World).heap.size = wr.heap.size + 1) := HSA
        clear BN HOA HWA HSA
        obtain ⟨hpm1, hpm2⟩ := hpm
        have hx1 : (j : Int) < (n : Int) + 1 := by omega
        have hx2 : (j : Int) + (k : Int) < (n : Int) + 1 := by omega
        have hx3 : (P j : Int) ≤ (P (j + k) : Int) := by omega
        have hx4 : (P (j + k) : Int) ≤ (tx.size : Int) := by omega
        refine wp_region_still_tail 14 (by kernel_rfl) (by kernel_rfl) ?_
        simp only [List.take_succ_cons, List.take_zero, List.drop_succ_cons, List.drop_zero]
        generalize ({ WA with drawn := WA.drawn + 1 } : World) = W at *
        have hy3 : ((j : Int) + (k : Int)).toNat = j + k := by omega
        have hy2 : 0 ≤ (j : Int) + (k : Int) := by omega
        have hy1 : IntKind.i64.wrap ((j : Int) + (k : Int)) = (j : Int) + (k : Int) := IntWalk.i64_in _ (by omega)
        repeat still_step
        clear hy1 hy2 hy3
        refine wpStill_nil ?_
        change wpList _ _ _ _ _ _
        have e0 : W.cell? ⟨wr.heap.size, 0, none⟩ = some (.string tx) := BN2.out.cell 0
        have f0 : W.frozen? ⟨wr.heap.size, 0, none⟩ = false := BN2.out.frozen 0
        clear hd0 hd1 hd2 hd3
        go_upto_region 10 with fail
        have BN3 : Hid (Blk (W.setCell ⟨wr.heap.size, 0, none⟩ (.string (tx.extract (P j) (P (j + k))))) wr.heap.size 117 #[.string (tx.extract (P j) (P (j + k))), .int .i64 ps, .int .i64 fr, .int .i64 tl]) := Lib.hid (BN2.out.set_ 0 _)
        have HO3 : Hid ((W.setCell ⟨wr.heap.size, 0, none⟩ (.string (tx.extract (P j) (P (j + k))))).ownsRow w1.heap.size 117 4 u5 j (tokCells ((List.range j).map G))) :=
          Lib.hid (own_setCell_ne HO2.out (a := ⟨wr.heap.size, 0, none⟩) (fun e => absurd (HO.out.lt _ e).2 (Nat.lt_irrefl _)) _)
        have HW3 : Hid (Below w1.heap.size w1 (W.setCell ⟨wr.heap.size, 0, none⟩ (.string (tx.extract (P j) (P (j + k)))))) := Lib.hid (HW2.out.setCell (p := ⟨wr.heap.size, 0, none⟩) hzr _)
        clear e0 f0 BN2 HO2 HW2 HS2
        generalize W.setCell ⟨wr.heap.size, 0, none⟩ (.string (tx.extract (P j) (P (j + k)))) = W3 at *
        obtain ⟨c0, c1, c2, c3⟩ := blk4 BN3.out
        have ho := HO3.out
        have hi := HI1.out; have hz0 := HI2.out; have hz1 := HI3.out; have hz2 := HI4.out
        have hz3 := HW3.out.size
        go_wp2_with (at_builtin; refine wpList_append_own _ rfl (.tmp 41) (.tmp 43) 83 rfl w1.heap.size 117 i0 (.agg #[.string ⟨#[]⟩, .int .i64 0, .int .i64 0, .int .i64 0]) 4 40 Tryz.underlying83 hi hz0 hz1 hz2 rfl (by decide) _ j (tokCells ((List.range j).map G)) rfl (ho.alloc _) ⟨W3.heap.size, 0, none⟩ 1 1 [.string (tx.extract (P j) (P (j + k))), .int .i64 ps, .int .i64 fr, .int .i64 tl] rfl rfl ?d1 ?d2 ?d3 ?d4 ?d5 ?_)
        case d1 => intro q u hu; exact cells_new W3 [.string (tx.extract (P j) (P (j + k))), .int .i64 ps, .int .i64 fr, .int .i64 tl] _ q u hu
        case d2 => intro u hu; exact tok_one (ts := [⟨tx.extract (P j) (P (j + k)), ps, fr, tl⟩]) hu
        case d3 => unfold maxLen; omega
        case d4 => omega
        case d5 => simp; omega
        intro v' w4 ho4 hg4 _
        have hb4 : Below w1.heap.size w1 w4 := (HW3.out.alloc hz3 _).grown hg4 (by simp; omega) (fun r e => (ho.lt r e).1)
        have HO4 : Hid (w4.ownsRow w1.heap.size 117 4 v' (j + 1) (tokCells ((List.range (j + 1)).map G))) := Lib.hid (by rw [HRC.out, HGT.out]; exact ho4)
        have HB4 := Lib.hid hb4
        clear ho ho4 hg4 hb4 c0 c1 c2 c3 hi hz0 hz1 hz2
        go_wp2_with fail
        go_roundw
        case rel => exact ⟨j + 1, by omega, by go_num, HO4, HB4⟩
        case measure => simp [RowKit.intOf]; omega
      · obtain rfl : j = n + 1 - k := by omega
        have HB : Hid (Below w.heap.size w wr) := Lib.hid (HB1.out.trans (HW.out.mono HB1.out.size))
        obtain ⟨ao, cp, rfl⟩ : ∃ ao cp, u5 = .slice ao (n + 1 - k) cp := by
          rcases HO.out.2 with ⟨rfl, h0⟩ | ⟨g', cap', cur, rfl, _⟩
          · exact ⟨none, 0, by rw [h0]⟩
          · exact ⟨_, _, rfl⟩
        have HOW := Lib.hid (Reads.of_own HO.out)
        go_wp2_with fail
        go_ret
        refine ⟨ao, cp, ?_, ?_, HB.out⟩
        · simp
        · have := HOW.out
          simpa using this
end Go.Proofs.YtinmiekbhoemjaaGreatDoor.Ana
end
section
set_option linter.unusedVariables false
namespace Go.Proofs.YtinmiekbhoemjaaGreatDoor.Ana
open Go.RowKit Go.Lib FoldP FoldInts FoldForms FoldNext FoldIter FoldValid AnaP Words Tree Kit Owned SBuilder

/-- An own row of numbers as a block. -/
theorem ints_blk {w : World} {B n : Nat} {v : Value} {l : List Nat} (h : w.ownsRow B 3 1 v n (l.map cellN)) (hn : 0 < n) : ∃ g cap cur, v = .slice (some ⟨g, 0, none⟩) n cap ∧ B ≤ g ∧ Blk w g 3 cur ∧ n ≤ cap ∧ cap ≤ maxLen ∧ ∀ (i p : Nat), l[i]? = some p → cur[i]? = some (.int .i64 (p : Int)) := by
  rcases h.2 with ⟨_, h0⟩ | ⟨g, cap, cur, rfl, hb, hg, hc, hm, hs, ht⟩
  · omega
  · refine ⟨g, cap, cur, rfl, hb, hg, hc, hm, fun i p hp => ?_⟩
    have := h.cells (g := g) rfl i (cellN p) (by rw [List.getElem?_map, hp]; rfl)
    have hadd : (⟨g, 0, none⟩ : Addr).add i = ⟨g, i, none⟩ := by unfold Addr.add; split <;> simp_all
    rw [hadd, show w.cell? ⟨g, i, none⟩ = cur[i]? from Blk.cell hg i] at this
    exact this
theorem othersKept_blk {w w' : World} {b g : Nat} {t : TypeId} {cs : Array Value} (h : Lib.OthersKept 5 (some b) w w') (hg : Blk w g t cs) (hn : g ≠ b) (ht : t ≠ 5) : Blk w' g t cs :=
  h g _ hg (by simpa using hn) (by intro c fz e; injection e with _ e _; exact ht e)
/-- What the loop knows: a builder of what has been written, the token's variable, the places. -/
def MarkI (w : World) (g : Nat) (cur : Array Value) (tx : ByteArray) (ps fr tl : Int) (l : List UInt8) (W : World) : Prop :=
  Lib.IsBuilderF 130 5 w.heap.size (w.heap.size + 1) (byteCells l) W ∧ Blk W w.heap.size 117 #[.string tx, .int .i64 ps, .int .i64 fr, .int .i64 tl] ∧ Blk W g 3 cur ∧ Below w.heap.size w W
theorem MarkI.next {w W W' : World} {g : Nat} {cur : Array Value} {tx : ByteArray} {ps fr tl : Int} {l : List UInt8} (h : MarkI w g cur tx ps fr tl l W) (hb : Below W.heap.size W W') : MarkI w g cur tx ps fr tl l W' :=
  ⟨builder_kept h.1 (Words.only_of_below hb none) (fun r e => by cases e), h.2.1.below hb h.2.1.lt, h.2.2.1.below hb h.2.2.1.lt, h.2.2.2.trans (hb.mono h.2.2.2.size)⟩

set_option maxRecDepth 100000 in
set_option maxHeartbeats 2000000 in
theorem marksT_any (t : TokD) (w : World) (hs : t.text.size ≤ 1099511627776) (hT : Tabs w) :
    Calls Tryz.prog 73 #[.agg #[.string t.text, .int .i64 t.pos, .int .i64 t.frm, .int .i64 t.til]] w (TokRow ((marksF t.text).map (fun x => ({ t with text := x } : TokD))) w) := by
  obtain ⟨tx, ps, fr, tl⟩ := t
  dsimp only at *
  have hnr := nR_le tx.data.toList
  have hlen : tx.data.toList.length = tx.size := by simp
  rw [hlen] at hnr
  have HC : Hid (∀ W, Below w.heap.size w W → Calls Tryz.prog 87 #[.string tx] W (OwnInts (posL tx.data.toList) W)) := Lib.hid (fun W hW => places_any tx W (by omega) (hT.next hW))
  have HPG : Hid (∀ i, i ≤ nR tx.data.toList → (posL tx.data.toList)[i]? = some (posAt tx.data.toList i)) := Lib.hid (fun i h => posAt_get _ i h)
  have HPM : Hid (∀ i, i < nR tx.data.toList → posAt tx.data.toList i < posAt tx.data.toList (i + 1) ∧ posAt tx.data.toList (i + 1) ≤ tx.size) := Lib.hid (fun i h => by have := posAt_step tx.data.toList i h; rw [hlen] at this; exact this)
  have HPL := Lib.hid (posL_len tx.data.toList)
  have HUS := Lib.hid (unmarkTo_succ tx.data.toList)
  have HU0 : Hid (unmarkTo tx.data.toList 0 = []) := Lib.hid rfl
  have HUL : Hid (∀ i, i ≤ nR tx.data.toList → (unmarkTo tx.data.toList i).length ≤ tx.size) := Lib.hid (fun i h => by have := unmarkTo_len tx.data.toList i h; have := posAt_le tx.data.toList i; rw [hlen] at this; omega)
  have HND : Hid (∀ i, i < nR tx.data.toList → ∀ W, Below w.heap.size w W → ∃ rr nn : Nat, rr ≤ 1114111 ∧ (unmark1 tx.data.toList i = if markF (rr : Int) then [] else (tx.data.toList.drop (posAt tx.data.toList i)).take (posAt tx.data.toList (i + 1) - posAt tx.data.toList i)) ∧
      Calls Tryz.prog 88 #[.string tx, .int .i64 (posAt tx.data.toList i : Int)] W (PairBelow rr nn W)) := Lib.hid (fun i h W hW => by
    have hp := posAt_next tx.data.toList i h
    refine ⟨_, _, decodeL_rune (tx.data.toList.drop (posAt tx.data.toList i)), rfl, next_at tx _ W (by omega) (hT.next hW) (by rw [← hlen]; exact hp.1) _ _ rfl⟩)
  have HMF : Hid (marksF tx = if unmarkTo tx.data.toList (nR tx.data.toList) = [] then [] else [⟨(unmarkTo tx.data.toList (nR tx.data.toList)).toArray⟩]) := Lib.hid rfl
  obtain ⟨MF, hMF⟩ : ∃ MF, marksF tx = MF := ⟨_, rfl⟩
  rw [hMF] at HMF ⊢
  clear hMF hT hlen
  generalize hud : unmarkTo tx.data.toList = U at *
  clear hud
  generalize hu1 : unmark1 tx.data.toList = U1 at *
  clear hu1
  generalize nR tx.data.toList = n at *
  generalize hP : posAt tx.data.toList = P at *
  clear hP
  generalize posL tx.data.toList = pl at *
  go_enter Tryz.func73, Tryz.ntmps73
  go_wp2_with fail
  refine (HC.out _ (((Below.refl _ _).alloc (Nat.le_refl _) _).alloc (by simp) _)).mono ?_
  rintro e w1 ⟨v, rfl, hv, b1⟩
  obtain ⟨g, cap, cur, rfl, hg1, hg2, hc1, hc2, hcell⟩ := ints_blk hv (by rw [HPL.out]; omega)
  have HB1 := Lib.hid ((((Below.refl _ w).alloc (Nat.le_refl _) _).alloc (by simp) _).trans (b1.mono (by simp; omega)))
  have BK := Lib.hid (((Blk.new w 117 #[.string tx, .int .i64 ps, .int .i64 fr, .int .i64 tl]).alloc _).below b1 (by simp; omega))
  have hw1 : w.heap.size + 2 ≤ w1.heap.size := by have := b1.size; simpa using this
  have hgN : w.heap.size + 2 ≤ g := by simpa using hg1
  have hbd : Lib.IsBuilderF 130 5 w.heap.size (w.heap.size + 1) (byteCells []) w1 := by
    refine builder_kept (W := (w.alloc (.cells #[.string tx, .int .i64 ps, .int .i64 fr, .int .i64 tl] 117)).alloc (.cells #[.pointer none, .slice none 0 0] 130)) (.inl ⟨by omega, .slice none 0 0, ?_, ?_, by simp [Value.ownBlock]⟩) (Words.only_of_below b1 none) (fun r e => by cases e)
    · have := heap_alloc_new (w.alloc (.cells #[.string tx, .int .i64 ps, .int .i64 fr, .int .i64 tl] 117)) (.cells #[.pointer none, .slice none 0 0] 130)
      simpa using this
    · exact World.ownsRowF_of (World.ownsRow_nil _ _ _ _)
  have HI0 : Hid (MarkI w g cur tx ps fr tl [] w1) := Lib.hid ⟨hbd, BK.out, hg2, HB1.out⟩
  have HCE := Lib.hid hcell
  have hglt := hg2.lt
  rw [HPL.out] at hc1 ⊢
  unfold maxLen at hc2
  clear b1 hv hcell hbd hg2
  go_wp2_with fail
  go_loopw [14] (fun i wr => ∃ j : Nat, j ≤ n ∧ i = .int .i64 j ∧ Hid (MarkI w g cur tx ps fr tl (U j) wr)) (fun i _ => n - (RowKit.intOf i).toNat)
  case atStart => exact ⟨0, by omega, rfl, Lib.hid (by rw [HU0.out]; exact HI0.out)⟩
  case round =>
    obtain ⟨j, hj, rfl, HM⟩ := hrel
    by_cases hlt : j < n
    · obtain ⟨rr, nn, hrr, hU1, hN⟩ := HND.out j hlt wr.drew (HM.out.2.2.2.trans ⟨rfl, rfl, rfl, Nat.le_refl _, fun _ _ => rfl⟩)
      have HU1 := Lib.hid hU1; have HN := Lib.hid hN
      have HD : Hid (MarkI w g cur tx ps fr tl (U j) wr.drew) := Lib.hid (HM.out.next ⟨rfl, rfl, rfl, Nat.le_refl _, fun _ _ => rfl⟩)
      have SF : Hid (∀ w', MarkI w g cur tx ps fr tl (U j) w' → w'.cell? ⟨w.heap.size, 0, none⟩ = some (.string tx) ∧ w'.cell? ⟨g, j, none⟩ = some (.int .i64 (P j : Int))) := Lib.hid (fun w' h => ⟨h.2.1.cell 0, (h.2.2.1.cell j).trans (HCE.out j _ (HPG.out j (by omega)))⟩)
      clear hU1 hN
      go_upto_region 6 with fail
      have hx1 : (j : Int) < (n : Int) + 1 := by omega
      go_region_held3 (fun w' => Hid (MarkI w g cur tx ps fr tl (U j) w') ∧ w'.cell? ⟨w.heap.size, 0, none⟩ = some (.string tx) ∧ w'.cell? ⟨g, j, none⟩ = some (.int .i64 (P j : Int)))
        (first | exact ⟨HM3, SF.out _ HM3.out⟩ | exact ⟨HD, SF.out _ HD.out⟩)
        (first
          | (go_at_call 88; refine HN.out.mono ?_; rintro e w2 ⟨rfl, b2⟩; have HM3 := Lib.hid (HD.out.next b2); clear b2))
      clear SF HD
      cases hmk : markF (rr : Int) with
      | true =>
        have HE : Hid (U (j + 1) = U j) := Lib.hid (by rw [HUS.out, HU1.out, hmk]; simp)
        have HK : Hid (Calls Tryz.prog 89 #[.int .i32 (rr : Int)] w2 (BoolRet true w2)) := Lib.hid (by rw [← hmk]; exact mark_any _ _)
        clear hmk
        go_wp2_with fail
        refine HK.out.mono ?_
        rintro e w3 ⟨rfl, rfl⟩
        go_wp2_with fail
        go_roundw
        case rel => exact ⟨j + 1, by omega, by go_num, Lib.hid (by rw [HE.out]; exact HM3.out)⟩
        case measure => simp [RowKit.intOf]; omega
      | false =>
        have HE : Hid (U (j + 1) = U j ++ (tx.data.toList.drop (P j)).take (P (j + 1) - P j)) := Lib.hid (by rw [HUS.out, HU1.out, hmk]; simp)
        have HK : Hid (Calls Tryz.prog 89 #[.int .i32 (rr : Int)] w2 (BoolRet false w2)) := Lib.hid (by rw [← hmk]; exact mark_any _ _)
        clear hmk
        go_wp2_with fail
        refine HK.out.mono ?_
        rintro e w3 ⟨rfl, rfl⟩
        go_upto_region 8 with fail
        have HM4 : Hid (MarkI w g cur tx ps fr tl (U j) ({ w2 with drawn := w2.drawn + 1 } : World)) := Lib.hid (HM3.out.next ⟨rfl, rfl, rfl, Nat.le_refl _, fun _ _ => rfl⟩)
        refine wp_region_still_tail 12 (by kernel_rfl) (by kernel_rfl) ?_
        simp only [List.take_succ_cons, List.take_zero, List.drop_succ_cons, List.drop_zero]
        generalize ({ w2 with drawn := w2.drawn + 1 } : World) = W4 at *
        obtain ⟨hpm1, hpm2⟩ := HPM.out j hlt
        have c0 : W4.cell? ⟨w.heap.size, 0, none⟩ = some (.string tx) := HM4.out.2.1.cell 0
        have cp : W4.cell? ⟨g, j, none⟩ = some (.int .i64 (P j : Int)) := (HM4.out.2.2.1.cell j).trans (HCE.out j _ (HPG.out j (by omega)))
        have cq : W4.cell? ⟨g, j + 1, none⟩ = some (.int .i64 (P (j + 1) : Int)) := (HM4.out.2.2.1.cell (j + 1)).trans (HCE.out (j + 1) _ (HPG.out (j + 1) (by omega)))
        have hx2 : (j : Int) + 1 < (n : Int) + 1 := by omega
        have hx3 : (P j : Int) ≤ (P (j + 1) : Int) := by omega
        have hx4 : (P (j + 1) : Int) ≤ (tx.size : Int) := by omega
        have hy3 : ((j : Int) + 1).toNat = j + 1 := by omega
        have hy2 : 0 ≤ (j : Int) + 1 := by omega
        have hul := HUL.out j (by omega)
        have hy1 : IntKind.i64.wrap ((j : Int) + 1) = (j : Int) + 1 := IntWalk.i64_in _ (by omega)
        repeat still_step
        clear hy1 hy2 hy3
        refine wpStill_nil ?_
        change wpList _ _ _ _ _ _
        clear c0 cp cq
        have hsx : (tx.extract (P j) (P (j + 1))).size = P (j + 1) - P j := by simp; omega
        have hbl : (byteCells (U j)).length + (tx.extract (P j) (P (j + 1))).size ≤ 140737488355328 := by rw [byteCells_length, hsx]; omega
        have HW : Hid _ := Lib.hid (writeString_any w.heap.size (w.heap.size + 1) (byteCells (U j)) (tx.extract (P j) (P (j + 1))) W4 HM4.out.1 hbl HM4.out.2.2.2.size)
        clear hbl hsx
        go_wp2_with fail
        refine HW.out.mono ?_
        rintro e w5 ⟨rfl, h1, h2, h3⟩
        have HM5 : Hid (MarkI w g cur tx ps fr tl (U (j + 1)) w5) := Lib.hid (by
          refine ⟨?_, othersKept_blk h3 HM4.out.2.1 (by omega) (by decide), othersKept_blk h3 HM4.out.2.2.1 (by omega) (by decide), HM4.out.2.2.2.trans h2⟩
          rw [HE.out, byteCells_append]
          have hcells : strCells (tx.extract (P j) (P (j + 1))) = byteCells ((tx.data.toList.drop (P j)).take (P (j + 1) - P j)) := by
            rw [strCells_eq, extract_data]
          rw [← hcells]
          exact .inr h1)
        clear h1 h2 h3
        go_wp2_with fail
        go_roundw
        case rel => exact ⟨j + 1, by omega, by go_num, HM5⟩
        case measure => simp [RowKit.intOf]; omega
    · obtain rfl : j = n := by omega
      have HS := Lib.hid (Tryz.Builder_String_any_k w.heap.size (w.heap.size + 1) (U j) wr HM.out.1 HM.out.2.2.2.size)
      go_wp2_with fail
      refine HS.out.mono ?_
      rintro e w5 ⟨rfl, h1, h2, h3⟩
      have BT : Hid (Blk w5 w.heap.size 117 #[.string tx, .int .i64 ps, .int .i64 fr, .int .i64 tl]) := Lib.hid (othersKept_blk h3 HM.out.2.1 (by omega) (by decide))
      have HB5 : Hid (Below w.heap.size w w5) := Lib.hid (HM.out.2.2.2.trans h2)
      obtain ⟨c0, c1, c2, c3⟩ := blk4 BT.out
      have f0 : w5.frozen? ⟨w.heap.size, 0, none⟩ = false := BT.out.frozen 0
      clear h1 h2 h3
      obtain ⟨sx, hsx⟩ : ∃ sx : ByteArray, sx = ⟨(U j).toArray⟩ := ⟨_, rfl⟩
      rw [← hsx]
      have HSX : Hid (sx = ⟨(U j).toArray⟩) := Lib.hid hsx
      have htl : sx.toList = U j := by rw [toList_data, hsx]
      have HTL := Lib.hid htl
      clear hsx htl
      by_cases hne : U j = []
      · have HM0 : Hid (MF = []) := Lib.hid (by rw [HMF.out, if_pos hne])
        have he : sx.toList.isEmpty = true := by rw [HTL.out, hne]; rfl
        clear hne
        go_wp2_with fail
        go_ret
        rw [HM0.out]
        exact tokRow_nil (HB5.out.setCell (p := ⟨w.heap.size, 0, none⟩) (Nat.le_refl _) _)
      · have HM0 : Hid (MF = [sx]) := Lib.hid (by rw [HMF.out, if_neg hne, HSX.out])
        have he : sx.toList.isEmpty = false := by rw [HTL.out]; cases hU : U j with | nil => exact absurd hU hne | cons _ _ => rfl
        clear hne
        go_wp2_with fail
        go_ret
        rw [HM0.out]
        exact tokRow_one sx ps fr tl (HB5.out.setCell (p := ⟨w.heap.size, 0, none⟩) (Nat.le_refl _) _) (by simp [World.setCell]) rfl
end Go.Proofs.YtinmiekbhoemjaaGreatDoor.Ana
end
