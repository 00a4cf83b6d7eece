/- Contracts: filters that make at most one token of one: lower, stop, short. -/
import Derived.Test.YtfbedonphhiolaaDoorAnaStop
import Derived.Test.YtfbedonphhiolaaDoorAnaPlaces
import Derived.Test.YtfbedonphhiolaaDoorFoldFold
import Derived.StillTailTactics
import Derived.Outline
set_option linter.unusedVariables false
namespace Go.Proofs.YtfbedonphhiolaaDoor.Ana
open Go.RowKit Go.Lib FoldP FoldNext FoldRefFold FoldFold AnaP Words Tree Kit Owned

/-- A row of tokens is answered. -/
def TokRow (ts : List TokD) (w : World) (e : Ending) (w' : World) : Prop := ∃ ao c, e = .returned (.slice ao ts.length c) ∧ Reads w' w'.heap.size 4 ao ts.length (tokCells ts) ∧ Below w.heap.size w w'
theorem row_one (W : World) (tx : ByteArray) (ps fr tl : Int) : Reads (W.alloc (.cells #[.string tx, .int .i64 ps, .int .i64 fr, .int .i64 tl] 43)) (W.alloc (.cells #[.string tx, .int .i64 ps, .int .i64 fr, .int .i64 tl] 43)).heap.size 4 (some ⟨W.heap.size, 0, none⟩) 1 (tokCells [⟨tx, ps, fr, tl⟩]) :=
  ⟨rfl, fun _ => ⟨_, rfl, by simp, fun j u hu => cells_new W [.string tx, .int .i64 ps, .int .i64 fr, .int .i64 tl] _ j u hu⟩⟩
theorem tokRow_one {w W : World} {e : Ending} (tx : ByteArray) (ps fr tl : Int) {g : Nat} (h : Below w.heap.size w W) (hg : g = W.heap.size) (he : e = .returned (.slice (some ⟨g, 0, none⟩) 1 1)) : TokRow [⟨tx, ps, fr, tl⟩] w e (W.alloc (.cells #[.string tx, .int .i64 ps, .int .i64 fr, .int .i64 tl] 43)) := by
  subst hg
  exact ⟨_, _, he, row_one W tx ps fr tl, h.alloc h.size _⟩
theorem tokRow_nil {w w' : World} (h : Below w.heap.size w w') : TokRow [] w (.returned (.slice none 0 0)) w' := ⟨none, 0, rfl, Reads.none_, h⟩
theorem str_eq (l : List UInt8) : str l = ⟨l.toArray⟩ := rfl
/-- The block of a token's variable, cell by cell. -/
theorem blk4 {w : World} {g : Nat} {t : TypeId} {v0 v1 v2 v3 : Value} (h : Blk w g t #[v0, v1, v2, v3]) : w.cell? ⟨g, 0, none⟩ = some v0 ∧ w.cell? ⟨g, 1, none⟩ = some v1 ∧ w.cell? ⟨g, 2, none⟩ = some v2 ∧ w.cell? ⟨g, 3, none⟩ = some v3 := ⟨h.cell 0, h.cell 1, h.cell 2, h.cell 3⟩

set_option maxRecDepth 100000 in
theorem lowerT_any (t : TokD) (w : World) (hs : t.text.size ≤ 17592186044415) (hT : Tabs w) :
    Calls Tryd.prog 32 #[.agg #[.string t.text, .int .i64 t.pos, .int .i64 t.frm, .int .i64 t.til]] w (TokRow (oneT 10 t) w) := by
  obtain ⟨tx, ps, fr, tl⟩ := t
  dsimp only at hs ⊢
  have e : oneT 10 ⟨tx, ps, fr, tl⟩ = [⟨str (foldL tx.data.toList), ps, fr, tl⟩] := rfl
  rw [e]
  have HC : Hid (∀ W, Below w.heap.size w W → Calls Tryd.prog 48 #[.string tx] W (StrBelow (foldL tx.data.toList) W)) := Lib.hid (fun W hW => callsIn_wide.1 (fold_in tx W (by omega) (hT.next hW)))
  clear hT
  go_enter Tryd.func32, Tryd.ntmps32
  go_wp2_with fail
  refine (HC.out _ ((Below.refl _ _).alloc (Nat.le_refl _) _)).mono ?_
  rintro e w1 ⟨rfl, b1⟩
  have HB1 := Lib.hid (((Below.refl _ w).alloc (Nat.le_refl _) _).trans (b1.mono (by simp)))
  have BK := Lib.hid ((Blk.new w 43 #[.string tx, .int .i64 ps, .int .i64 fr, .int .i64 tl]).below b1 (by simp))
  obtain ⟨c0, c1, c2, c3⟩ := blk4 BK.out
  have f0 : w1.frozen? ⟨w.heap.size, 0, none⟩ = false := BK.out.frozen 0
  clear b1
  go_wp2_with fail
  go_ret
  exact tokRow_one (str (foldL tx.data.toList)) ps fr tl (HB1.out.setCell (p := ⟨w.heap.size, 0, none⟩) (Nat.le_refl _) _) (by simp [World.setCell]) rfl

set_option maxRecDepth 100000 in
theorem stopT_any (t : TokD) (w : World) :
    Calls Tryd.prog 33 #[.agg #[.string t.text, .int .i64 t.pos, .int .i64 t.frm, .int .i64 t.til]] w (TokRow (oneT 11 t) w) := by
  obtain ⟨tx, ps, fr, tl⟩ := t
  dsimp only
  have e : oneT 11 ⟨tx, ps, fr, tl⟩ = if stopF tx then [] else [⟨tx, ps, fr, tl⟩] := by
    unfold oneT oneF
    rw [if_neg (by omega), if_pos rfl]
    dsimp only
    split <;> rfl
  rw [e]
  have HC : Hid (∀ W, Calls Tryd.prog 14 #[.string tx] W (PureB (stopF tx) W)) := Lib.hid (fun W => stop_any tx W)
  cases hq : stopF tx with
  | true =>
    rw [hq] at HC
    have HQ := Lib.hid hq; clear hq
    rw [if_pos rfl]
    go_enter Tryd.func33, Tryd.ntmps33
    go_wp2_with fail
    refine (HC.out _).mono ?_
    rintro e w1 ⟨rfl, rfl⟩
    go_wp2_with fail
    go_ret
    exact tokRow_nil ((Below.refl _ w).alloc (Nat.le_refl _) _)
  | false =>
    rw [hq] at HC
    have HQ := Lib.hid hq; clear hq
    rw [if_neg (by decide)]
    go_enter Tryd.func33, Tryd.ntmps33
    go_wp2_with fail
    refine (HC.out _).mono ?_
    rintro e w1 ⟨rfl, rfl⟩
    go_wp2_with fail
    go_ret
    exact tokRow_one tx ps fr tl ((Below.refl _ w).alloc (Nat.le_refl _) _) (by simp) rfl

/-- The cells of an own row of numbers. -/
theorem ints_cell {w : World} {B n : Nat} {v : Value} {l : List Nat} (h : w.ownsRow B 3 1 v n (l.map cellN)) (hn : 0 < n) : ∃ g cap, v = .slice (some ⟨g, 0, none⟩) n cap ∧ B ≤ g ∧ g < w.heap.size ∧ n ≤ cap ∧ cap ≤ maxLen ∧ ∀ (i p : Nat), l[i]? = some p → w.cell? ⟨g, i, none⟩ = some (.int .i64 (p : Int)) := by
  rcases h.2 with ⟨_, h0⟩ | ⟨g, cap, cur, rfl, hb, hg, hc, hm, _⟩
  · omega
  · refine ⟨g, cap, rfl, hb, (Array.getElem?_eq_some_iff.1 hg).1, hc, hm, fun i p hp => ?_⟩
    have := h.cells (g := g) rfl i (cellN p) (by rw [List.getElem?_map, hp]; rfl)
    have hadd : (⟨g, 0, none⟩ : Addr).add i = ⟨g, i, none⟩ := by unfold Addr.add; split <;> simp_all
    rwa [hadd] at this

set_option maxRecDepth 100000 in
set_option maxHeartbeats 1000000 in
theorem shortT_any (t : TokD) (w : World) (hs : t.text.size ≤ 17592186044415) (hT : Tabs w) :
    Calls Tryd.prog 35 #[.agg #[.string t.text, .int .i64 t.pos, .int .i64 t.frm, .int .i64 t.til]] w (TokRow (oneT 14 t) w) := by
  obtain ⟨tx, ps, fr, tl⟩ := t
  dsimp only at hs ⊢
  have e : oneT 14 ⟨tx, ps, fr, tl⟩ = if 16 < nR tx.data.toList then [⟨tx.extract 0 (posAt tx.data.toList 16), ps, fr, tl⟩] else [⟨tx, ps, fr, tl⟩] := by
    unfold oneT oneF
    rw [if_neg (by omega), if_neg (by omega), if_neg (by omega), if_neg (by omega), if_pos rfl]
    dsimp only
    unfold shortF
    split <;> rfl
  rw [e]
  have hnr := nR_le tx.data.toList
  have hlen : tx.data.toList.length = tx.size := by simp
  rw [hlen] at hnr
  have HC : Hid (∀ W, Below w.heap.size w W → Calls Tryd.prog 45 #[.string tx] W (OwnInts (posL tx.data.toList) W)) := Lib.hid (fun W hW => places_any tx W hs (hT.next hW))
  have hpe : posAt tx.data.toList 16 ≤ tx.size := by rw [← hlen]; exact posAt_le _ _
  have HG : Hid (16 < nR tx.data.toList → (posL tx.data.toList)[16]? = some (posAt tx.data.toList 16)) := Lib.hid (fun h => posAt_get _ 16 (by omega))
  have HPL := Lib.hid (posL_len tx.data.toList)
  clear hT hlen e
  generalize nR tx.data.toList = n at *
  generalize posAt tx.data.toList 16 = p16 at *
  generalize posL tx.data.toList = pl at *
  by_cases hlt : 16 < n
  · rw [if_pos hlt]
    have h16 := HG.out hlt
    have H16 := Lib.hid h16; clear h16
    go_enter Tryd.func35, Tryd.ntmps35
    go_wp2_with fail
    refine (HC.out _ ((Below.refl _ _).alloc (Nat.le_refl _) _)).mono ?_
    rintro e w1 ⟨v, rfl, hv, b1⟩
    obtain ⟨g, cap, rfl, hg1, hg2, hc1, hc2, hcell⟩ := ints_cell hv (by rw [HPL.out]; omega)
    have HB1 := Lib.hid (((Below.refl _ w).alloc (Nat.le_refl _) _).trans (b1.mono (by simp)))
    have BK := Lib.hid ((Blk.new w 43 #[.string tx, .int .i64 ps, .int .i64 fr, .int .i64 tl]).below b1 (by simp))
    rw [HPL.out] at hc1 ⊢
    have HCE := Lib.hid hcell
    clear b1 hv hcell
    have h16 : w1.cell? ⟨g, 16, none⟩ = some (.int .i64 (p16 : Int)) := HCE.out 16 p16 H16.out
    obtain ⟨c0, c1, c2, c3⟩ := blk4 BK.out
    have f0 : w1.frozen? ⟨w.heap.size, 0, none⟩ = false := BK.out.frozen 0
    go_upto_region 3 with fail
    change ({ w1 with drawn := w1.drawn + 1 } : World).cell? _ = _ at c0 c1 c2 c3 h16
    change ({ w1 with drawn := w1.drawn + 1 } : World).frozen? _ = _ at f0
    have HB2 : Hid (Below w.heap.size w ({ w1 with drawn := w1.drawn + 1 } : World)) := Lib.hid (HB1.out.trans ⟨rfl, rfl, rfl, Nat.le_refl _, fun _ _ => rfl⟩)
    refine wp_region_still_tail 7 (by kernel_rfl) (by kernel_rfl) ?_
    simp only [List.take_succ_cons, List.take_zero, List.drop_succ_cons, List.drop_zero]
    clear BK HB1 HCE hg2
    generalize ({ w1 with drawn := w1.drawn + 1 } : World) = W at *
    have hi1 : (16 : Int) < ((n + 1 : Nat) : Int) := by omega
    have hi2 : (16 : Int) < (n : Int) + 1 := by omega
    have hi3 : (p16 : Int) ≤ (tx.size : Int) := by omega
    repeat still_step
    refine wpStill_nil ?_
    change wpList _ _ _ _ _ _
    go_wp2_with fail
    go_ret
    exact tokRow_one (tx.extract 0 p16) ps fr tl (HB2.out.setCell (p := ⟨w.heap.size, 0, none⟩) (Nat.le_refl _) _) (by simp [World.setCell]) rfl
  · rw [if_neg hlt]
    go_enter Tryd.func35, Tryd.ntmps35
    go_wp2_with fail
    refine (HC.out _ ((Below.refl _ _).alloc (Nat.le_refl _) _)).mono ?_
    rintro e w1 ⟨v, rfl, hv, b1⟩
    obtain ⟨g, cap, rfl, hg1, hg2, hc1, hc2, hcell⟩ := ints_cell hv (by rw [HPL.out]; omega)
    have HB1 := Lib.hid (((Below.refl _ w).alloc (Nat.le_refl _) _).trans (b1.mono (by simp)))
    have BK := Lib.hid ((Blk.new w 43 #[.string tx, .int .i64 ps, .int .i64 fr, .int .i64 tl]).below b1 (by simp))
    rw [HPL.out] at hc1 ⊢
    have HCE := Lib.hid hcell
    clear b1 hv hcell
    obtain ⟨c0, c1, c2, c3⟩ := blk4 BK.out
    go_wp2_with fail
    go_ret
    exact tokRow_one tx ps fr tl HB1.out rfl rfl
end Go.Proofs.YtfbedonphhiolaaDoor.Ana
