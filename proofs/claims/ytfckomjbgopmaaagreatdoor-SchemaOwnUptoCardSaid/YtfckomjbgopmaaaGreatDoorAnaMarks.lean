/- Contract: the filter that leaves marks out: a builder. -/
import Derived.Test.YtfckomjbgopmaaaGreatDoorPack28
import Derived.Test.YtfckomjbgopmaaaGreatDoorPack27
import Derived.Deep.RegionHeld3
set_option linter.unusedVariables false
namespace Go.Proofs.YtfckomjbgopmaaaGreatDoor.Ana
open Go.RowKit Go.Lib FoldP FoldInts FoldForms FoldNext FoldIter FoldValid AnaP Words Tree Kit Owned SBuilder

/-- An own row of numbers as a block. -/
theorem ints_blk {w : World} {B n : Nat} {v : Value} {l : List Nat} (h : w.ownsRow B 3 1 v n (l.map cellN)) (hn : 0 < n) : ∃ g cap cur, v = .slice (some ⟨g, 0, none⟩) n cap ∧ B ≤ g ∧ Blk w g 3 cur ∧ n ≤ cap ∧ cap ≤ maxLen ∧ ∀ (i p : Nat), l[i]? = some p → cur[i]? = some (.int .i64 (p : Int)) := by
  rcases h.2 with ⟨_, h0⟩ | ⟨g, cap, cur, rfl, hb, hg, hc, hm, hs, ht⟩
  · omega
  · refine ⟨g, cap, cur, rfl, hb, hg, hc, hm, fun i p hp => ?_⟩
    have := h.cells (g := g) rfl i (cellN p) (by rw [List.getElem?_map, hp]; rfl)
    have hadd : (⟨g, 0, none⟩ : Addr).add i = ⟨g, i, none⟩ := by unfold Addr.add; split <;> simp_all
    rw [hadd, show w.cell? ⟨g, i, none⟩ = cur[i]? from Blk.cell hg i] at this
    exact this
theorem othersKept_blk {w w' : World} {b g : Nat} {t : TypeId} {cs : Array Value} (h : Lib.OthersKept 5 (some b) w w') (hg : Blk w g t cs) (hn : g ≠ b) (ht : t ≠ 5) : Blk w' g t cs :=
  h g _ hg (by simpa using hn) (by intro c fz e; injection e with _ e _; exact ht e)
/-- What the loop knows: a builder of what has been written, the token's variable, the places. -/
def MarkI (w : World) (g : Nat) (cur : Array Value) (tx : ByteArray) (ps fr tl : Int) (l : List UInt8) (W : World) : Prop :=
  Lib.IsBuilderF 125 5 w.heap.size (w.heap.size + 1) (byteCells l) W ∧ Blk W w.heap.size 59 #[.string tx, .int .i64 ps, .int .i64 fr, .int .i64 tl] ∧ Blk W g 3 cur ∧ Below w.heap.size w W
theorem MarkI.next {w W W' : World} {g : Nat} {cur : Array Value} {tx : ByteArray} {ps fr tl : Int} {l : List UInt8} (h : MarkI w g cur tx ps fr tl l W) (hb : Below W.heap.size W W') : MarkI w g cur tx ps fr tl l W' :=
  ⟨builder_kept h.1 (Words.only_of_below hb none) (fun r e => by cases e), h.2.1.below hb h.2.1.lt, h.2.2.1.below hb h.2.2.1.lt, h.2.2.2.trans (hb.mono h.2.2.2.size)⟩

set_option maxRecDepth 100000 in
set_option maxHeartbeats 2000000 in
theorem marksT_any (t : TokD) (w : World) (hs : t.text.size ≤ 1099511627776) (hT : Tabs w) :
    Calls Tryz.prog 114 #[.agg #[.string t.text, .int .i64 t.pos, .int .i64 t.frm, .int .i64 t.til]] w (TokRow ((marksF t.text).map (fun x => ({ t with text := x } : TokD))) w) := by
  obtain ⟨tx, ps, fr, tl⟩ := t
  dsimp only at *
  have hnr := nR_le tx.data.toList
  have hlen : tx.data.toList.length = tx.size := by simp
  rw [hlen] at hnr
  have HC : Hid (∀ W, Below w.heap.size w W → Calls Tryz.prog 94 #[.string tx] W (OwnInts (posL tx.data.toList) W)) := Lib.hid (fun W hW => places_any tx W (by omega) (hT.next hW))
  have HPG : Hid (∀ i, i ≤ nR tx.data.toList → (posL tx.data.toList)[i]? = some (posAt tx.data.toList i)) := Lib.hid (fun i h => posAt_get _ i h)
  have HPM : Hid (∀ i, i < nR tx.data.toList → posAt tx.data.toList i < posAt tx.data.toList (i + 1) ∧ posAt tx.data.toList (i + 1) ≤ tx.size) := Lib.hid (fun i h => by have := posAt_step tx.data.toList i h; rw [hlen] at this; exact this)
  have HPL := Lib.hid (posL_len tx.data.toList)
  have HUS := Lib.hid (unmarkTo_succ tx.data.toList)
  have HU0 : Hid (unmarkTo tx.data.toList 0 = []) := Lib.hid rfl
  have HUL : Hid (∀ i, i ≤ nR tx.data.toList → (unmarkTo tx.data.toList i).length ≤ tx.size) := Lib.hid (fun i h => by have := unmarkTo_len tx.data.toList i h; have := posAt_le tx.data.toList i; rw [hlen] at this; omega)
  have HND : Hid (∀ i, i < nR tx.data.toList → ∀ W, Below w.heap.size w W → ∃ rr nn : Nat, rr ≤ 1114111 ∧ (unmark1 tx.data.toList i = if markF (rr : Int) then [] else (tx.data.toList.drop (posAt tx.data.toList i)).take (posAt tx.data.toList (i + 1) - posAt tx.data.toList i)) ∧
      Calls Tryz.prog 144 #[.string tx, .int .i64 (posAt tx.data.toList i : Int)] W (PairBelow rr nn W)) := Lib.hid (fun i h W hW => by
    have hp := posAt_next tx.data.toList i h
    refine ⟨_, _, decodeL_rune (tx.data.toList.drop (posAt tx.data.toList i)), rfl, next_at tx _ W (by omega) (hT.next hW) (by rw [← hlen]; exact hp.1) _ _ rfl⟩)
  have HMF : Hid (marksF tx = if unmarkTo tx.data.toList (nR tx.data.toList) = [] then [] else [⟨(unmarkTo tx.data.toList (nR tx.data.toList)).toArray⟩]) := Lib.hid rfl
  obtain ⟨MF, hMF⟩ : ∃ MF, marksF tx = MF := ⟨_, rfl⟩
  rw [hMF] at HMF ⊢
  clear hMF hT hlen
  generalize hud : unmarkTo tx.data.toList = U at *
  clear hud
  generalize hu1 : unmark1 tx.data.toList = U1 at *
  clear hu1
  generalize nR tx.data.toList = n at *
  generalize hP : posAt tx.data.toList = P at *
  clear hP
  generalize posL tx.data.toList = pl at *
  go_enter Tryz.func114, Tryz.ntmps114
  go_wp2_with fail
  refine (HC.out _ (((Below.refl _ _).alloc (Nat.le_refl _) _).alloc (by simp) _)).mono ?_
  rintro e w1 ⟨v, rfl, hv, b1⟩
  obtain ⟨g, cap, cur, rfl, hg1, hg2, hc1, hc2, hcell⟩ := ints_blk hv (by rw [HPL.out]; omega)
  have HB1 := Lib.hid ((((Below.refl _ w).alloc (Nat.le_refl _) _).alloc (by simp) _).trans (b1.mono (by simp; omega)))
  have BK := Lib.hid (((Blk.new w 59 #[.string tx, .int .i64 ps, .int .i64 fr, .int .i64 tl]).alloc _).below b1 (by simp; omega))
  have hw1 : w.heap.size + 2 ≤ w1.heap.size := by have := b1.size; simpa using this
  have hgN : w.heap.size + 2 ≤ g := by simpa using hg1
  have hbd : Lib.IsBuilderF 125 5 w.heap.size (w.heap.size + 1) (byteCells []) w1 := by
    refine builder_kept (W := (w.alloc (.cells #[.string tx, .int .i64 ps, .int .i64 fr, .int .i64 tl] 59)).alloc (.cells #[.pointer none, .slice none 0 0] 125)) (.inl ⟨by omega, .slice none 0 0, ?_, ?_, by simp [Value.ownBlock]⟩) (Words.only_of_below b1 none) (fun r e => by cases e)
    · have := heap_alloc_new (w.alloc (.cells #[.string tx, .int .i64 ps, .int .i64 fr, .int .i64 tl] 59)) (.cells #[.pointer none, .slice none 0 0] 125)
      simpa using this
    · exact World.ownsRowF_of (World.ownsRow_nil _ _ _ _)
  have HI0 : Hid (MarkI w g cur tx ps fr tl [] w1) := Lib.hid ⟨hbd, BK.out, hg2, HB1.out⟩
  have HCE := Lib.hid hcell
  have hglt := hg2.lt
  rw [HPL.out] at hc1 ⊢
  unfold maxLen at hc2
  clear b1 hv hcell hbd hg2
  go_wp2_with fail
  go_loopw [14] (fun i wr => ∃ j : Nat, j ≤ n ∧ i = .int .i64 j ∧ Hid (MarkI w g cur tx ps fr tl (U j) wr)) (fun i _ => n - (RowKit.intOf i).toNat)
  case atStart => exact ⟨0, by omega, rfl, Lib.hid (by rw [HU0.out]; exact HI0.out)⟩
  case round =>
    obtain ⟨j, hj, rfl, HM⟩ := hrel
    by_cases hlt : j < n
    · obtain ⟨rr, nn, hrr, hU1, hN⟩ := HND.out j hlt wr.drew (HM.out.2.2.2.trans ⟨rfl, rfl, rfl, Nat.le_refl _, fun _ _ => rfl⟩)
      have HU1 := Lib.hid hU1; have HN := Lib.hid hN
      have HD : Hid (MarkI w g cur tx ps fr tl (U j) wr.drew) := Lib.hid (HM.out.next ⟨rfl, rfl, rfl, Nat.le_refl _, fun _ _ => rfl⟩)
      have SF : Hid (∀ w', MarkI w g cur tx ps fr tl (U j) w' → w'.cell? ⟨w.heap.size, 0, none⟩ = some (.string tx) ∧ w'.cell? ⟨g, j, none⟩ = some (.int .i64 (P j : Int))) := Lib.hid (fun w' h => ⟨h.2.1.cell 0, (h.2.2.1.cell j).trans (HCE.out j _ (HPG.out j (by omega)))⟩)
      clear hU1 hN
      go_upto_region 6 with fail
      have hx1 : (j : Int) < (n : Int) + 1 := by omega
      go_region_held3 (fun w' => Hid (MarkI w g cur tx ps fr tl (U j) w') ∧ w'.cell? ⟨w.heap.size, 0, none⟩ = some (.string tx) ∧ w'.cell? ⟨g, j, none⟩ = some (.int .i64 (P j : Int)))
        (first | exact ⟨HM3, SF.out _ HM3.out⟩ | exact ⟨HD, SF.out _ HD.out⟩)
        (first
          | (go_at_call 144; refine HN.out.mono ?_; rintro e w2 ⟨rfl, b2⟩; have HM3 := Lib.hid (HD.out.next b2); clear b2))
      clear SF HD
      cases hmk : markF (rr : Int) with
      | true =>
        have HE : Hid (U (j + 1) = U j) := Lib.hid (by rw [HUS.out, HU1.out, hmk]; simp)
        have HK : Hid (Calls Tryz.prog 120 #[.int .i32 (rr : Int)] w2 (BoolRet true w2)) := Lib.hid (by rw [← hmk]; exact mark_any _ _)
        clear hmk
        go_wp2_with fail
        refine HK.out.mono ?_
        rintro e w3 ⟨rfl, rfl⟩
        go_wp2_with fail
        go_roundw
        case rel => exact ⟨j + 1, by omega, by go_num, Lib.hid (by rw [HE.out]; exact HM3.out)⟩
        case measure => simp [RowKit.intOf]; omega
      | false =>
        have HE : Hid (U (j + 1) = U j ++ (tx.data.toList.drop (P j)).take (P (j + 1) - P j)) := Lib.hid (by rw [HUS.out, HU1.out, hmk]; simp)
        have HK : Hid (Calls Tryz.prog 120 #[.int .i32 (rr : Int)] w2 (BoolRet false w2)) := Lib.hid (by rw [← hmk]; exact mark_any _ _)
        clear hmk
        go_wp2_with fail
        refine HK.out.mono ?_
        rintro e w3 ⟨rfl, rfl⟩
        go_upto_region 8 with fail
        have HM4 : Hid (MarkI w g cur tx ps fr tl (U j) ({ w2 with drawn := w2.drawn + 1 } : World)) := Lib.hid (HM3.out.next ⟨rfl, rfl, rfl, Nat.le_refl _, fun _ _ => rfl⟩)
        refine wp_region_still_tail 12 (by kernel_rfl) (by kernel_rfl) ?_
        simp only [List.take_succ_cons, List.take_zero, List.drop_succ_cons, List.drop_zero]
        generalize ({ w2 with drawn := w2.drawn + 1 } : World) = W4 at *
        obtain ⟨hpm1, hpm2⟩ := HPM.out j hlt
        have c0 : W4.cell? ⟨w.heap.size, 0, none⟩ = some (.string tx) := HM4.out.2.1.cell 0
        have cp : W4.cell? ⟨g, j, none⟩ = some (.int .i64 (P j : Int)) := (HM4.out.2.2.1.cell j).trans (HCE.out j _ (HPG.out j (by omega)))
        have cq : W4.cell? ⟨g, j + 1, none⟩ = some (.int .i64 (P (j + 1) : Int)) := (HM4.out.2.2.1.cell (j + 1)).trans (HCE.out (j + 1) _ (HPG.out (j + 1) (by omega)))
        have hx2 : (j : Int) + 1 < (n : Int) + 1 := by omega
        have hx3 : (P j : Int) ≤ (P (j + 1) : Int) := by omega
        have hx4 : (P (j + 1) : Int) ≤ (tx.size : Int) := by omega
        have hy3 : ((j : Int) + 1).toNat = j + 1 := by omega
        have hy2 : 0 ≤ (j : Int) + 1 := by omega
        have hul := HUL.out j (by omega)
        have hy1 : IntKind.i64.wrap ((j : Int) + 1) = (j : Int) + 1 := IntWalk.i64_in _ (by omega)
        repeat still_step
        clear hy1 hy2 hy3
        refine wpStill_nil ?_
        change wpList _ _ _ _ _ _
        clear c0 cp cq
        have hsx : (tx.extract (P j) (P (j + 1))).size = P (j + 1) - P j := by simp; omega
        have hbl : (byteCells (U j)).length + (tx.extract (P j) (P (j + 1))).size ≤ 140737488355328 := by rw [byteCells_length, hsx]; omega
        have HW : Hid _ := Lib.hid (writeString_any w.heap.size (w.heap.size + 1) (byteCells (U j)) (tx.extract (P j) (P (j + 1))) W4 HM4.out.1 hbl HM4.out.2.2.2.size)
        clear hbl hsx
        go_wp2_with fail
        refine HW.out.mono ?_
        rintro e w5 ⟨rfl, h1, h2, h3⟩
        have HM5 : Hid (MarkI w g cur tx ps fr tl (U (j + 1)) w5) := Lib.hid (by
          refine ⟨?_, othersKept_blk h3 HM4.out.2.1 (by omega) (by decide), othersKept_blk h3 HM4.out.2.2.1 (by omega) (by decide), HM4.out.2.2.2.trans h2⟩
          rw [HE.out, byteCells_append]
          have hcells : strCells (tx.extract (P j) (P (j + 1))) = byteCells ((tx.data.toList.drop (P j)).take (P (j + 1) - P j)) := by
            rw [strCells_eq, extract_data]
          rw [← hcells]
          exact .inr h1)
        clear h1 h2 h3
        go_wp2_with fail
        go_roundw
        case rel => exact ⟨j + 1, by omega, by go_num, HM5⟩
        case measure => simp [RowKit.intOf]; omega
    · obtain rfl : j = n := by omega
      have HS := Lib.hid (Tryz.Builder_String_any_k w.heap.size (w.heap.size + 1) (U j) wr HM.out.1 HM.out.2.2.2.size)
      go_wp2_with fail
      refine HS.out.mono ?_
      rintro e w5 ⟨rfl, h1, h2, h3⟩
      have BT : Hid (Blk w5 w.heap.size 59 #[.string tx, .int .i64 ps, .int .i64 fr, .int .i64 tl]) := Lib.hid (othersKept_blk h3 HM.out.2.1 (by omega) (by decide))
      have HB5 : Hid (Below w.heap.size w w5) := Lib.hid (HM.out.2.2.2.trans h2)
      obtain ⟨c0, c1, c2, c3⟩ := blk4 BT.out
      have f0 : w5.frozen? ⟨w.heap.size, 0, none⟩ = false := BT.out.frozen 0
      clear h1 h2 h3
      obtain ⟨sx, hsx⟩ : ∃ sx : ByteArray, sx = ⟨(U j).toArray⟩ := ⟨_, rfl⟩
      rw [← hsx]
      have HSX : Hid (sx = ⟨(U j).toArray⟩) := Lib.hid hsx
      have htl : sx.toList = U j := by rw [toList_data, hsx]
      have HTL := Lib.hid htl
      clear hsx htl
      by_cases hne : U j = []
      · have HM0 : Hid (MF = []) := Lib.hid (by rw [HMF.out, if_pos hne])
        have he : sx.toList.isEmpty = true := by rw [HTL.out, hne]; rfl
        clear hne
        go_wp2_with fail
        go_ret
        rw [HM0.out]
        exact tokRow_nil (HB5.out.setCell (p := ⟨w.heap.size, 0, none⟩) (Nat.le_refl _) _)
      · have HM0 : Hid (MF = [sx]) := Lib.hid (by rw [HMF.out, if_neg hne, HSX.out])
        have he : sx.toList.isEmpty = false := by rw [HTL.out]; cases hU : U j with | nil => exact absurd hU hne | cons _ _ => rfl
        clear hne
        go_wp2_with fail
        go_ret
        rw [HM0.out]
        exact tokRow_one sx ps fr tl (HB5.out.setCell (p := ⟨w.heap.size, 0, none⟩) (Nat.le_refl _) _) (by simp [World.setCell]) rfl
end Go.Proofs.YtfckomjbgopmaaaGreatDoor.Ana
