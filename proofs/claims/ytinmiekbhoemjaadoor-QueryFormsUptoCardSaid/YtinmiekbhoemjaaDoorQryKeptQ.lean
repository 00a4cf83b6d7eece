/- Contracts: a query that was lent is as it was. -/
import Derived.Test.YtinmiekbhoemjaaDoorQrySame
import Derived.Test.YtinmiekbhoemjaaDoorQryLentQ
set_option linter.unusedVariables false
namespace Go.Proofs.YtinmiekbhoemjaaDoor.Qry
open Go.RowKit Words Tree QryP Kit Owned

/-- The mark behind the kids of a query that was lent. -/
theorem at_lent_kids {w : World} {S : Nat → Prop} {ks : List QT} {v : Value} (h : T.At lent w S (.arr 10 ks.length (cellsL ks)) v) :
    ∃ ad cap, v = .slice (some ad) ks.length cap ∧ ks.length + 1 ≤ cap ∧ cap ≤ maxLen ∧ S ad.block ∧ w.cell? (ad.add (ks.length * 10)) = some (.int .i64 (-71)) ∧
      ∀ (i : Nat) (hi : i < ks.length), ∃ us, T.AtL lent w S (cells ks[i]) us ∧ us.length = 10 ∧ Cells w (ad.add (i * 10)) us := by
  simp only [T.At] at h
  obtain ⟨A, cap, vs, hv, hc, hm, hl, ha, hx⟩ := h
  rw [lent_ten] at hc ha
  obtain ⟨ad, rfl, hs, hcs⟩ := ha (by simp)
  refine ⟨ad, cap, hv, hc, hm, hs, ?_, fun i hi => ?_⟩
  · have := hcs.right
    rw [AtL.length hx, cellsL_len] at this
    exact this.zero
  · rw [cellsL_eq] at hx
    obtain ⟨us, hul, hus, hj⟩ := AtL.elem cells_len hx i hi
    exact ⟨us, hus, hul, (hcs.left).elem hj hul⟩

set_option maxRecDepth 100000 in
set_option maxHeartbeats 4000000 in
theorem keptQ_any : ∀ (n : Nat) (q : QT) (vs us : List Value) (w : World), q.sz ≤ n → Ok q → T.AtL lent w (fun g => g < w.heap.size) (cells q) vs → T.AtL bare w (fun g => g < w.heap.size) (cells q) us → Calls Tryd.prog 15 #[.agg vs.toArray, .agg us.toArray] w (BoolB true w) := by
  intro n
  induction n with
  | zero => intro q vs us w hs; have := q.sz_pos; omega
  | succ n ih =>
  intro q vs us w hs hq hv hu
  have hQ : ∀ W, Below w.heap.size w W → Calls Tryd.prog 18 #[.agg vs.toArray, .agg us.toArray] W (BoolB true W) := fun W hW =>
    kitQuery_any _ q q vs us W (Nat.le_refl _) hq hq (AtL.below (AtL.bare hv) hW (fun g hg => Nat.lt_of_lt_of_le hg hW.size)) (AtL.below hu hW (fun g hg => Nat.lt_of_lt_of_le hg hW.size)) true (by simp)
  cases hq with
  | @mk kd oc f t u lo hi b op ks hkd hoc hf ht hu' hlo hhi hb hop hks hk =>
  obtain ⟨vl, vh, vk, rfl, hvl, hvh, hvk⟩ := at_cells hv
  obtain ⟨ul, uh, uk, rfl, hul, huh, huk⟩ := at_cells hu
  obtain ⟨B1, d1, rfl, _, _, s1⟩ := at_ints hul
  obtain ⟨B2, d2, rfl, _, _, s2⟩ := at_ints huh
  obtain ⟨BK, dK, rfl, _, hmB, eB⟩ := at_kids huk
  obtain ⟨A1, c1, rfl⟩ := at_form' hvl
  obtain ⟨A2, c2, rfl⟩ := at_form' hvh
  obtain ⟨ad, cK, rfl, hcap, hmK, hadb, hmark, eK⟩ := at_lent_kids hvk
  have hLO : ∀ W, Below w.heap.size w W → Calls Tryd.prog 29 #[.slice A1 lo.length c1, .slice B1 lo.length d1] W (BoolB true W) := fun W hW =>
    kept64_any _ _ _ _ _ W (At.below hvl hW (fun g hg => Nat.lt_of_lt_of_le hg hW.size)) ((s1.below hW).more hW.size) hlo.1 hlo.1 true (by simp)
  have hHI : ∀ W, Below w.heap.size w W → Calls Tryd.prog 29 #[.slice A2 hi.length c2, .slice B2 hi.length d2] W (BoolB true W) := fun W hW =>
    kept64_any _ _ _ _ _ W (At.below hvh hW (fun g hg => Nat.lt_of_lt_of_le hg hW.size)) ((s2.below hW).more hW.size) hhi.1 hhi.1 true (by simp)
  have hIH : ∀ (i : Nat) (h : i < ks.length) (us us2 : List Value) (W : World), T.AtL lent W (fun g => g < W.heap.size) (cells ks[i]) us → T.AtL bare W (fun g => g < W.heap.size) (cells ks[i]) us2 → Calls Tryd.prog 15 #[.agg us.toArray, .agg us2.toArray] W (BoolB true W) := fun i h us us2 W h1 h2 => by
    refine ih _ us us2 W ?_ (hk _ (List.getElem_mem h)) h1 h2
    have := QT.sz_kid (kd := kd) (oc := oc) (f := f) (t := t) (u := u) (lo := lo) (hi := hi) (b := b) (op := op) (List.getElem_mem h)
    omega
  have LO := Lib.hid hLO; have HI := Lib.hid hHI; have EK := Lib.hid eK; have EB := Lib.hid eB; have IH := Lib.hid hIH; have QQ := Lib.hid hQ; have MK := Lib.hid hmark
  have hmK' := hmK
  unfold maxLen at hmK'
  clear ih hLO hHI hIH hQ eK eB hk hv hu hvl hvh hvk hul huh huk s1 s2 hkd hoc hf ht hu' hlo hhi hb hop hs hmark
  go_enter Tryd.func15, Tryd.ntmps15
  go_wp2_with fail
  refine (QQ.out _ (below2 _ _)).mono ?_
  rintro e W0 ⟨rfl, b0⟩
  have HB0 := Lib.hid ((below2 _ _).trans (b0.mono (by simp; omega)) : Below w.heap.size w W0)
  have BA0 := Lib.hid ((blk_a _ _ _ _ _).below b0 (by simp; omega))
  have BB0 := Lib.hid ((blk_b _ _ _ _ _).below b0 (by simp))
  have p5 : W0.cell? ⟨w.heap.size, 5, none⟩ = some (.slice A1 lo.length c1) := BA0.out.cell 5
  have q5 : W0.cell? ⟨w.heap.size + 1, 5, none⟩ = some (.slice B1 lo.length d1) := BB0.out.cell 5
  clear b0
  go_wp2_with fail
  refine (LO.out _ HB0.out).mono ?_
  rintro e W1 ⟨rfl, b1⟩
  have HB1 := Lib.hid (HB0.out.trans (b1.mono HB0.out.size))
  have BA1 := Lib.hid (BA0.out.below b1 BA0.out.lt)
  have BB1 := Lib.hid (BB0.out.below b1 BB0.out.lt)
  have p6 : W1.cell? ⟨w.heap.size, 6, none⟩ = some (.slice A2 hi.length c2) := BA1.out.cell 6
  have q6 : W1.cell? ⟨w.heap.size + 1, 6, none⟩ = some (.slice B2 hi.length d2) := BB1.out.cell 6
  clear b1 p5 q5
  go_wp2_with fail
  refine (HI.out _ HB1.out).mono ?_
  rintro e W2 ⟨rfl, b2⟩
  have HB2 := Lib.hid (HB1.out.trans (b2.mono HB1.out.size))
  have BA2 := Lib.hid (BA1.out.below b2 BA1.out.lt)
  have BB2 := Lib.hid (BB1.out.below b2 BB1.out.lt)
  have hzz : w.heap.size + 2 ≤ W2.heap.size := BB2.out.lt
  clear b2 p6 q6 BA0 BB0 BA1 BB1 HB0 HB1
  go_wp2_with fail
  go_loopw [5] (fun i wr => ∃ k : Nat, k ≤ ks.length ∧ i = .int .i64 k ∧ Hid (Below W2.heap.size W2 wr)) (fun i _ => ks.length - (intOf i).toNat)
  case atStart => exact ⟨0, by omega, rfl, Lib.hid (Below.refl _ _)⟩
  case round =>
    obtain ⟨k, hkk, rfl, HW⟩ := hrel
    have hcA : wr.cell? ⟨w.heap.size, 9, none⟩ = some (.slice (some ad) ks.length cK) := (BA2.out.below HW.out BA2.out.lt).cell 9
    have hcB : wr.cell? ⟨w.heap.size + 1, 9, none⟩ = some (.slice BK ks.length dK) := (BB2.out.below HW.out BB2.out.lt).cell 9
    have hwz := HW.out.size
    have HWW : Hid (Below w.heap.size w wr) := Lib.hid (HB2.out.trans (HW.out.mono HB2.out.size))
    by_cases hlt : k < ks.length
    · obtain ⟨us, au, lu, cu⟩ := EK.out k hlt
      obtain ⟨bd, us2, rfl, hbb, au2, lu2, cu2⟩ := EB.out k hlt
      replace cu := cu.keep (w' := wr) (fun p hp => HWW.out.cell (by rw [hp, block_of_add]; exact hadb))
      replace cu2 := cu2.keep (w' := wr) (fun p hp => HWW.out.cell (by rw [hp, block_of_add]; exact hbb))
      have hC : ∀ (W : World), Below w.heap.size w W → Calls Tryd.prog 15 #[.agg us.toArray, .agg us2.toArray] W (BoolB true W) := fun W hW =>
        IH.out k hlt us us2 W (AtL.below au hW (fun g hg => Nat.lt_of_lt_of_le hg hW.size)) (AtL.below au2 hW (fun g hg => Nat.lt_of_lt_of_le hg hW.size))
      have HC := Lib.hid hC
      clear hC
      generalize hx1 : ks[k] = q1 at *
      clear hx1
      obtain ⟨k1, o1, f1, t1, u1, l1, h1, b1, p1, e1⟩ := q1
      obtain ⟨x5, x6, x9, rfl, -, -, -⟩ := at_cells au
      obtain ⟨y5, y6, y9, rfl, -, -, -⟩ := at_cells au2
      obtain ⟨a0, a1, a2, a3, a4, a5, a6, a7, a8, a9⟩ := ten cu
      obtain ⟨b0, b1'', b2'', b3, b4, b5, b6, b7, b8, b9⟩ := ten cu2
      clear cu cu2 au au2 lu lu2
      go_upto_region 6 with fail
      have hBW : Below w.heap.size w ({ wr with drawn := wr.drawn + 1 } : World) := HWW.out.trans ⟨rfl, rfl, rfl, Nat.le_refl _, fun _ _ => rfl⟩
      have hBV : Below W2.heap.size W2 ({ wr with drawn := wr.drawn + 1 } : World) := HW.out.trans ⟨rfl, rfl, rfl, Nat.le_refl _, fun _ _ => rfl⟩
      change ({ wr with drawn := wr.drawn + 1 } : World).cell? _ = _ at hcA hcB a0 a1 a2 a3 a4 a5 a6 a7 a8 a9 b0 b1'' b2'' b3 b4 b5 b6 b7 b8 b9
      refine wp_region_still_tail 10 (by kernel_rfl) (by kernel_rfl) ?_
      simp only [List.take_succ_cons, List.take_zero, List.drop_succ_cons, List.drop_zero]
      clear HW HWW hwz
      generalize ({ wr with drawn := wr.drawn + 1 } : World) = W at *
      repeat still_step
      refine wpStill_nil ?_
      change wpList _ _ _ _ _ _
      have HBW := Lib.hid hBW; have HBV := Lib.hid hBV; clear hBW hBV
      clear hcA hcB a0 a1 a2 a3 a4 a5 a6 a7 a8 a9 b0 b1'' b2'' b3 b4 b5 b6 b7 b8 b9
      go_wp2_with fail
      refine (HC.out _ HBW.out).mono ?_
      rintro e W3 ⟨rfl, bW⟩
      have BV := Lib.hid (HBV.out.trans (bW.mono HBV.out.size))
      clear bW
      go_wp2_with fail
      go_roundw
      case rel => exact ⟨k + 1, by omega, by go_num, BV⟩
      case measure => simp [intOf]; omega
    · obtain rfl : k = ks.length := by omega
      have hmk : wr.cell? (ad.add (ks.length * 10)) = some (.int .i64 (-71)) := (HWW.out.cell (by rw [block_of_add]; exact hadb)).trans MK.out
      go_wp2_with fail
      go_ret
      exact ⟨rfl, HWW.out⟩
end Go.Proofs.YtinmiekbhoemjaaDoor.Qry
