/- Contract: lecternref18.Check (written by gen_rcheck.py). -/
import Derived.Test.YtinmiekbhoemjaaGreatDoorPack40
import Derived.Test.YtinmiekbhoemjaaGreatDoorQckRPart
import Derived.Test.YtinmiekbhoemjaaGreatDoorPack47
import Derived.Test.YtinmiekbhoemjaaGreatDoorPack38
set_option linter.unusedVariables false
namespace Go.Proofs.YtinmiekbhoemjaaGreatDoor.Qck
open Go.RowKit Words Tree SchP QckP Kit Owned Sch Qry QryP FoldNext AnaP Ana
theorem pageF_bad {size : Int} {n : Nat} {after : List (List KeyT × Int)} (h : size < 0 ∨ 1000 < size ∨ 1 < after.length) : pageF size n after = 185 := by
  unfold pageF; rw [if_pos h]
set_option maxRecDepth 100000 in
set_option maxHeartbeats 8000000 in
/-- The document's Check. -/
theorem refCheck_any (u : Value) (l : List FT) (r : ReqT) (vs : List Value) (w : World) (hu : T.At bare w (fun g => g < w.heap.size) (fieldsT l) u) (hl : l.length * 72 ≤ 140737488351232) (hf : ∀ f ∈ l, FOk f) (hv : T.AtL bare w (fun g => g < w.heap.size) (rcells r) vs) (hr : ROk r) :
    Calls Tryz.prog 7 #[.agg #[u], .agg vs.toArray] w (Sch.IntB (checkR l r) w) := by
  obtain ⟨e0, he0⟩ : ∃ e, checkR l r = e := ⟨_, rfl⟩
  have HR : Hid (orE (errS (checkS l)) (orE (partF l 0 0 r.query) (orE (sortF l r.sort) (orE (collF l r.collapse) (orE (pageF r.size r.sort.length r.after) (orE (aggsF l 0 [] r.aggs) (fieldsF l r.fields)))))) = e0) := Lib.hid (by rw [← he0, checkR])
  rw [he0]
  have hm : ∀ {W : World}, Below w.heap.size w W → ∀ g, g < w.heap.size → g < W.heap.size := fun hW g hg => Nat.lt_of_lt_of_le hg hW.size
  have HS := Lib.hid (fun (W : World) (hW : Below w.heap.size w W) => refCheckS_any u l W (At.below hu hW (hm hW)) hl hf)
  have HFI := Lib.hid (fun (s : ByteArray) (W : World) (hW : Below w.heap.size w W) => refFind_any u l s W (At.below hu hW (hm hW)) hl)
  obtain ⟨qs, v11, v12, v15, v16, rfl, hq, h3, h4, h7, h8⟩ := at_rcells hv
  have HPA := Lib.hid (fun (W : World) (hW : Below w.heap.size w W) => refPart_any u l _ r.query qs 0 0 W (Nat.le_refl _) (by omega) hr.query (AtL.below hq hW (hm hW)) (At.below hu hW (hm hW)) hl)
  have HSO := Lib.hid (fun (W : World) (hW : Below w.heap.size w W) => refSort_any u l r.sort v11 W (At.below hu hW (hm hW)) hl (At.below h3 hW (hm hW)) hr.sort.1)
  obtain ⟨A6, c6, rfl, _, _, hA6⟩ := akeys_of h7
  have HAG := Lib.hid (fun (W : World) (hW : Below w.heap.size w W) => refAggs_any u l 3 0 r.aggs A6 c6 W (by omega) (At.below hu hW (hm hW)) hl (hA6.below hW) hr.aggs.1 hr.aggs.2)
  obtain ⟨A, cap, rfl, hcF, hmF, helF⟩ := at_row fcells_len hu
  have ELF := Lib.hid helF
  have hsl := hr.sort.1
  have hfl := hr.fields.1
  have HAO := Lib.hid hr.after.2
  obtain ⟨A7, c7, rfl, _, _, hel7⟩ := at_row strcells_len h8
  have EL7 := Lib.hid hel7
  obtain ⟨A5, c5, rfl, _, _, hel5⟩ := at_row cucells_len h4
  have EL5 := Lib.hid hel5
  obtain ⟨A4, c4, rfl, _⟩ := at_slice h3
  obtain ⟨⟨kd, oc, f, t, up, lo, hi, b, op, ks⟩, so, af, sz, co, ag, fl⟩ := r
  dsimp only at *
  obtain ⟨vl, vh, vk, rfl, hvl, hvh, hvk⟩ := at_cells hq
  obtain ⟨A1, c1, rfl, _⟩ := at_ints hvl
  obtain ⟨A2, c2, rfl, _⟩ := at_ints hvh
  obtain ⟨A3, c3, rfl⟩ := at_sl hvk
  simp only [List.cons_append, List.nil_append] at *
  clear hq hvl hvh hvk h3 h4 h7 h8 hu hv hf hr he0 hcF hmF helF hel5 hel7 hA6
  generalize partF l 0 0 (.mk kd oc f t up lo hi b op ks) = pf at *
  generalize errS (checkS l) = es at *
  generalize sortF l so = sf at *
  generalize aggsF l 0 [] ag = gf at *
  have hb1 := ((Below.refl w.heap.size w).alloc (Nat.le_refl _) (Obj.cells #[.slice A l.length cap] 24)).alloc (by simp) (Obj.cells #[.int .i64 kd, .int .i64 oc, .string f, .string t, .string up, .slice A1 lo.length c1, .slice A2 hi.length c2, .int .i64 b, .int .i64 op, .slice A3 ks.length c3, .slice A4 so.length c4, .slice A5 af.length c5, .int .i64 sz, .string co, .slice A6 ag.length c6, .slice A7 fl.length c7] 34)
  have bs1 := (Blk.new w 24 #[.slice A l.length cap]).alloc (Obj.cells #[.int .i64 kd, .int .i64 oc, .string f, .string t, .string up, .slice A1 lo.length c1, .slice A2 hi.length c2, .int .i64 b, .int .i64 op, .slice A3 ks.length c3, .slice A4 so.length c4, .slice A5 af.length c5, .int .i64 sz, .string co, .slice A6 ag.length c6, .slice A7 fl.length c7] 34)
  have br1 := Blk.new (w.alloc (Obj.cells #[.slice A l.length cap] 24)) 34 #[.int .i64 kd, .int .i64 oc, .string f, .string t, .string up, .slice A1 lo.length c1, .slice A2 hi.length c2, .int .i64 b, .int .i64 op, .slice A3 ks.length c3, .slice A4 so.length c4, .slice A5 af.length c5, .int .i64 sz, .string co, .slice A6 ag.length c6, .slice A7 fl.length c7]
  rw [show (w.alloc (Obj.cells #[.slice A l.length cap] 24)).heap.size = w.heap.size + 1 by simp] at br1
  have HB1 := Lib.hid hb1
  have BS1 := Lib.hid bs1
  have BR1 := Lib.hid br1
  have hz1 : ((w.alloc (Obj.cells #[.slice A l.length cap] 24)).alloc (Obj.cells #[.int .i64 kd, .int .i64 oc, .string f, .string t, .string up, .slice A1 lo.length c1, .slice A2 hi.length c2, .int .i64 b, .int .i64 op, .slice A3 ks.length c3, .slice A4 so.length c4, .slice A5 af.length c5, .int .i64 sz, .string co, .slice A6 ag.length c6, .slice A7 fl.length c7] 34)).heap.size = w.heap.size + 2 := by simp
  clear hb1 bs1 br1
  go_enter Tryz.func7, Tryz.ntmps7
  go_upto_region 1 with fail
  generalize (w.alloc (Obj.cells #[.slice A l.length cap] 24)).alloc (Obj.cells #[.int .i64 kd, .int .i64 oc, .string f, .string t, .string up, .slice A1 lo.length c1, .slice A2 hi.length c2, .int .i64 b, .int .i64 op, .slice A3 ks.length c3, .slice A4 so.length c4, .slice A5 af.length c5, .int .i64 sz, .string co, .slice A6 ag.length c6, .slice A7 fl.length c7] 34) = w1 at *
  generalize (Value.agg #[.slice A l.length cap]) = va
  generalize (Value.agg #[.int .i64 kd, .int .i64 oc, .string f, .string t, .string up, .slice A1 lo.length c1, .slice A2 hi.length c2, .int .i64 b, .int .i64 op, .slice A3 ks.length c3, .slice A4 so.length c4, .slice A5 af.length c5, .int .i64 sz, .string co, .slice A6 ag.length c6, .slice A7 fl.length c7]) = vb
  have HBw : Hid (∀ W, Below (w.heap.size + 2) w1 W → Below w.heap.size w W) := Lib.hid (fun W hW => HB1.out.trans (hW.mono (by omega)))
  have HBS : Hid (∀ W, Below (w.heap.size + 2) w1 W → Blk W w.heap.size 24 #[.slice A l.length cap]) := Lib.hid (fun W hW => BS1.out.below hW (by omega))
  have HBR : Hid (∀ W, Below (w.heap.size + 2) w1 W → Blk W (w.heap.size + 1) 34 #[.int .i64 kd, .int .i64 oc, .string f, .string t, .string up, .slice A1 lo.length c1, .slice A2 hi.length c2, .int .i64 b, .int .i64 op, .slice A3 ks.length c3, .slice A4 so.length c4, .slice A5 af.length c5, .int .i64 sz, .string co, .slice A6 ag.length c6, .slice A7 fl.length c7]) := Lib.hid (fun W hW => BR1.out.below hW (by omega))
  have HG1 : Hid (∀ W, Below (w.heap.size + 2) w1 W → w.heap.size + 2 ≤ W.heap.size) := Lib.hid (fun W hW => by have := hW.size; omega)
  have H1 := Lib.hid (Below.refl (w.heap.size + 2) w1)
  clear HB1 BS1 BR1 hz1
  have s0 : w1.cell? ⟨w.heap.size, 0, none⟩ = some (.slice A l.length cap) := (HBS.out _ H1.out).cell 0
  go_wp2_with fail
  refine (HS.out _ (HBw.out _ H1.out)).mono ?_
  rintro e w2 ⟨rfl, hb⟩
  have H2 := Lib.hid (H1.out.trans (hb.mono (HG1.out _ H1.out)))
  clear hb s0 H1
  by_cases he : es = 0
  case neg =>
    have hee : (es == (0 : Int)) = false := by rw [beq_eq_false_iff_ne]; exact he
    have hen : (es != (0 : Int)) = true := by rw [bne_iff_ne]; exact he
    have HZ : Hid (e0 = es) := Lib.hid (by rw [← HR.out, orE, if_neg he])
    clear he
    go_wp2_with fail
    go_ret
    rw [HZ.out]
    exact ⟨rfl, HBw.out _ H2.out⟩
  subst he
  replace HR : Hid (orE pf (orE sf (orE (collF l co) (orE (pageF sz so.length af) (orE gf (fieldsF l fl))))) = e0) := Lib.hid HR.out
  have s0 : w2.cell? ⟨w.heap.size, 0, none⟩ = some (.slice A l.length cap) := (HBS.out _ H2.out).cell 0
  have r0 : w2.cell? ⟨w.heap.size + 1, 0, none⟩ = some (.int .i64 kd) := (HBR.out _ H2.out).cell 0
  have r1 : w2.cell? ⟨w.heap.size + 1, 1, none⟩ = some (.int .i64 oc) := (HBR.out _ H2.out).cell 1
  have r2 : w2.cell? ⟨w.heap.size + 1, 2, none⟩ = some (.string f) := (HBR.out _ H2.out).cell 2
  have r3 : w2.cell? ⟨w.heap.size + 1, 3, none⟩ = some (.string t) := (HBR.out _ H2.out).cell 3
  have r4 : w2.cell? ⟨w.heap.size + 1, 4, none⟩ = some (.string up) := (HBR.out _ H2.out).cell 4
  have r5 : w2.cell? ⟨w.heap.size + 1, 5, none⟩ = some (.slice A1 lo.length c1) := (HBR.out _ H2.out).cell 5
  have r6 : w2.cell? ⟨w.heap.size + 1, 6, none⟩ = some (.slice A2 hi.length c2) := (HBR.out _ H2.out).cell 6
  have r7 : w2.cell? ⟨w.heap.size + 1, 7, none⟩ = some (.int .i64 b) := (HBR.out _ H2.out).cell 7
  have r8 : w2.cell? ⟨w.heap.size + 1, 8, none⟩ = some (.int .i64 op) := (HBR.out _ H2.out).cell 8
  have r9 : w2.cell? ⟨w.heap.size + 1, 9, none⟩ = some (.slice A3 ks.length c3) := (HBR.out _ H2.out).cell 9
  go_wp2_with fail
  refine (HPA.out _ (HBw.out _ H2.out)).mono ?_
  rintro e w3 ⟨rfl, hb⟩
  have H3 := Lib.hid (H2.out.trans (hb.mono (HG1.out _ H2.out)))
  clear hb s0 r0 r1 r2 r3 r4 r5 r6 r7 r8 r9 H2
  by_cases he : pf = 0
  case neg =>
    have hee : (pf == (0 : Int)) = false := by rw [beq_eq_false_iff_ne]; exact he
    have hen : (pf != (0 : Int)) = true := by rw [bne_iff_ne]; exact he
    have HZ : Hid (e0 = pf) := Lib.hid (by rw [← HR.out, orE, if_neg he])
    clear he
    go_wp2_with fail
    go_ret
    rw [HZ.out]
    exact ⟨rfl, HBw.out _ H3.out⟩
  subst he
  replace HR : Hid (orE sf (orE (collF l co) (orE (pageF sz so.length af) (orE gf (fieldsF l fl)))) = e0) := Lib.hid HR.out
  have s0 : w3.cell? ⟨w.heap.size, 0, none⟩ = some (.slice A l.length cap) := (HBS.out _ H3.out).cell 0
  have r10 : w3.cell? ⟨w.heap.size + 1, 10, none⟩ = some (.slice A4 so.length c4) := (HBR.out _ H3.out).cell 10
  go_wp2_with fail
  refine (HSO.out _ (HBw.out _ H3.out)).mono ?_
  rintro e w4 ⟨rfl, hb⟩
  have H4 := Lib.hid (H3.out.trans (hb.mono (HG1.out _ H3.out)))
  clear hb s0 r10 H3
  by_cases he : sf = 0
  case neg =>
    have hee : (sf == (0 : Int)) = false := by rw [beq_eq_false_iff_ne]; exact he
    have hen : (sf != (0 : Int)) = true := by rw [bne_iff_ne]; exact he
    have HZ : Hid (e0 = sf) := Lib.hid (by rw [← HR.out, orE, if_neg he])
    clear he
    go_wp2_with fail
    go_ret
    rw [HZ.out]
    exact ⟨rfl, HBw.out _ H4.out⟩
  subst he
  replace HR : Hid (orE (collF l co) (orE (pageF sz so.length af) (orE gf (fieldsF l fl))) = e0) := Lib.hid HR.out
  clear HS HPA HSO
  have r13 : w4.cell? ⟨w.heap.size + 1, 13, none⟩ = some (.string co) := (HBR.out _ H4.out).cell 13
  go_upto_region 8 with fail
  obtain ⟨fb, hfb⟩ : ∃ fb : Bool, fb = !decide (co.size = 0) := ⟨_, rfl⟩
  have HFB := Lib.hid hfb
  clear hfb
  go_cut [30] from 28 to 30 (fun c wx => c = .bool fb ∧ w4 = wx)
  case first =>
    rcases empty_cases co with rfl | ⟨hne, hn2, hn3, hn4, hn5⟩
    · obtain rfl : fb = false := HFB.out
      go_wp2_with fail
      go_meet
      exact ⟨rfl, rfl⟩
    · obtain rfl : fb = true := by rw [HFB.out, decide_eq_false hn5]; rfl
      clear hn5
      go_wp2_with fail
      go_meet
      exact ⟨rfl, rfl⟩
  case rest =>
  obtain ⟨rfl, rfl⟩ := hcut
  go_upto_if 30 with fail
  go_cut [6] from 31 to 43 (fun _ wx => Hid (Below (w.heap.size + 2) w1 wx) ∧ Hid (orE (pageF sz so.length af) (orE gf (fieldsF l fl)) = e0))
  case first =>
    cases fb with
    | false =>
      have HZ : Hid (orE (pageF sz so.length af) (orE gf (fieldsF l fl)) = e0) := Lib.hid (by
        have h0 : co.size = 0 := by have := HFB.out; simpa using this
        rw [← HR.out, collF, if_pos h0]; rfl)
      go_wp2_with fail
      go_meet
      exact ⟨H4, HZ⟩
    | true =>
      have HC : Hid (collF l co = if (fieldG l co).2 = 0 then (if (fieldG l co).1.kind = 2 then 0 else 82) else (fieldG l co).2) := Lib.hid (by
        have h0 : ¬ co.size = 0 := by have := HFB.out; simpa using this
        rw [collF, if_neg h0, fieldG]
        cases fieldF l co <;> rfl)
      have s0 : w4.cell? ⟨w.heap.size, 0, none⟩ = some (.slice A l.length cap) := (HBS.out _ H4.out).cell 0
      go_wp2_with fail
      refine (HFI.out co _ (HBw.out _ H4.out)).mono ?_
      rintro e w5 ⟨rfl, hb⟩
      have H5 := Lib.hid (H4.out.trans (hb.mono (HG1.out _ H4.out)))
      clear hb s0 r13
      rcases find_cases l co with ⟨hz, hG⟩ | ⟨i, hil, hz, hG⟩
      · have HX : Hid (e0 = 81) := Lib.hid (by rw [← HR.out, HC.out, hG]; rfl)
        rw [hz]
        clear hz hG
        go_wp2_with fail
        go_ret
        rw [HX.out]
        exact ⟨rfl, HBw.out _ H5.out⟩
      · obtain ⟨adF, uF, rfl, hbf, aF, lf, cf⟩ := ELF.out i hil
        replace cf := cf.keep (w' := w5) (fun p hp => (HBw.out _ H5.out).cell (by rw [hp, block_of_add]; exact hbf))
        have hi2 : (i : Int) < (l.length : Int) := by omega
        have hi0 : (0 : Int) ≤ (i : Int) := by omega
        have HME : Hid (orE (if l[i].kind = 2 then 0 else 82) (orE (pageF sz so.length af) (orE gf (fieldsF l fl))) = e0) := Lib.hid (by rw [← HR.out, HC.out, hG]; rfl)
        have s0 : w5.cell? ⟨w.heap.size, 0, none⟩ = some (.slice (some adF) l.length cap) := (HBS.out _ H5.out).cell 0
        rw [hz]
        generalize l[i] = fe at *
        obtain ⟨f0, f1, f2, f3, f4, f5, f6⟩ := fe
        obtain ⟨vc, rfl, gc⟩ := at_fcells aF
        obtain ⟨x0, x1, x2, x3, x4, x5, x6⟩ := seven cf
        dsimp only at HME
        clear hz hG cf aF lf gc x0 x2 x3 x4 x5 x6
        by_cases h2 : f1 = 2
        · subst h2
          have HX : Hid (orE (pageF sz so.length af) (orE gf (fieldsF l fl)) = e0) := Lib.hid HME.out
          go_wp2_with fail
          go_meet
          exact ⟨H5, HX⟩
        · have n2 : (f1 != (2 : Int)) = true := by rw [bne_iff_ne]; exact h2
          have HX : Hid (e0 = 82) := Lib.hid (by rw [← HME.out, if_neg h2]; rfl)
          clear h2
          go_wp2_with fail
          go_ret
          rw [HX.out]
          exact ⟨rfl, HBw.out _ H5.out⟩
  case rest =>
  obtain ⟨H5, HR5⟩ := hcut
  clear HR HFB r13 H4
  have r12 : wc.cell? ⟨w.heap.size + 1, 12, none⟩ = some (.int .i64 sz) := (HBR.out _ H5.out).cell 12
  have r11 : wc.cell? ⟨w.heap.size + 1, 11, none⟩ = some (.slice A5 af.length c5) := (HBR.out _ H5.out).cell 11
  go_upto_region 14 with fail
  obtain ⟨bp, hbp⟩ : ∃ bp : Bool, bp = decide (sz < 0 ∨ 1000 < sz ∨ 1 < af.length) := ⟨_, rfl⟩
  have HBP := Lib.hid hbp
  clear hbp
  go_cut [57] from 44 to 57 (fun c wx => c = .bool bp ∧ wc = wx)
  case first =>
    rcases (show sz < 0 ∨ 1000 < sz ∨ (0 ≤ sz ∧ sz ≤ 1000) by omega) with h | h | ⟨h, h9⟩
    · have d1 : decide (sz < (0 : Int)) = true := decide_eq_true h
      obtain rfl : bp = true := by rw [HBP.out]; exact decide_eq_true (.inl h)
      go_wp2_with fail
      go_meet
      exact ⟨rfl, rfl⟩
    · have d1 : decide (sz < (0 : Int)) = false := decide_eq_false (by omega)
      have d2 : decide ((1000 : Int) < sz) = true := decide_eq_true h
      obtain rfl : bp = true := by rw [HBP.out]; exact decide_eq_true (.inr (.inl h))
      go_wp2_with fail
      go_meet
      exact ⟨rfl, rfl⟩
    · have d1 : decide (sz < (0 : Int)) = false := decide_eq_false (by omega)
      have d2 : decide ((1000 : Int) < sz) = false := decide_eq_false (by omega)
      by_cases h1 : 1 < af.length
      · have d3 : decide ((1 : Int) < (af.length : Int)) = true := decide_eq_true (by omega)
        have e3 : decide (1 < af.length) = true := decide_eq_true h1
        obtain rfl : bp = true := by rw [HBP.out]; exact decide_eq_true (.inr (.inr h1))
        clear h1
        go_wp2_with fail
        go_meet
        exact ⟨rfl, rfl⟩
      · have d3 : decide ((1 : Int) < (af.length : Int)) = false := decide_eq_false (by omega)
        have e3 : decide (1 < af.length) = false := decide_eq_false h1
        obtain rfl : bp = false := by rw [HBP.out]; exact decide_eq_false (by omega)
        clear h1
        go_wp2_with fail
        go_meet
        exact ⟨rfl, rfl⟩
  case rest =>
  obtain ⟨rfl, rfl⟩ := hcut
  cases bp with
  | true =>
    have HX : Hid (e0 = 185) := Lib.hid (by rw [← HR5.out, pageF_bad (of_decide_eq_true HBP.out.symm)]; rfl)
    go_wp2_with fail
    go_ret
    rw [HX.out]
    exact ⟨rfl, HBw.out _ H5.out⟩
  | false =>
  have hlen : af.length ≤ 1 := by
    have := of_decide_eq_false HBP.out.symm
    omega
  have hpk : ¬ sz < 0 ∧ ¬ 1000 < sz := by
    have := of_decide_eq_false HBP.out.symm
    omega
  have HPK := Lib.hid hpk
  clear HBP hpk r12
  go_upto_if 61 with fail
  go_cut [7, 8] from 58 to 89 (fun _ _ wx => Hid (Below (w.heap.size + 2) w1 wx) ∧ Hid (orE gf (fieldsF l fl) = e0))
  case first =>
    by_cases hl0 : af.length = 0
    · have d1 : ((af.length : Int) == (1 : Int)) = false := by rw [beq_eq_false_iff_ne]; omega
      have HX : Hid (orE gf (fieldsF l fl) = e0) := Lib.hid (by
        rw [← HR5.out, pageF_ok _ _ _ HPK.out.1 HPK.out.2 (by omega), List.eq_nil_of_length_eq_zero hl0]; rfl)
      clear hl0
      go_wp2_with fail
      go_meet
      exact ⟨H5, HX⟩
    · have d1 : ((af.length : Int) == (1 : Int)) = true := by rw [beq_iff_eq]; omega
      have hl1 : 0 < af.length := by omega
      have hl2 : (0 : Int) < (af.length : Int) := by omega
      obtain ⟨ad, us, rfl, hba, au, lu, cu⟩ := EL5.out 0 hl1
      have hd0 : pageL so.length af = pageL so.length (af.drop 0) := by rw [List.drop_zero]
      have HPG := Lib.hid ((pageF_ok sz so.length af HPK.out.1 HPK.out.2 (by omega)).trans (hd0.trans (pageL_drop so.length af 0 hl1)))
      clear hd0
      have HNX : Hid (pageL so.length (af.drop (0 + 1)) = 0) := Lib.hid (by rw [List.drop_eq_nil_of_le (by omega), pageL])
      have hcok := HAO.out _ (List.getElem_mem hl1)
      generalize af[0] = c at *
      obtain ⟨ckl, seq⟩ := c
      obtain ⟨v0, rfl, hv0⟩ := at_cucells au
      obtain ⟨KX, cK, rfl, hkx⟩ := ckeys_of hv0
      have HKX := Lib.hid hkx
      have HAD : Hid (∀ W, Below w.heap.size w W → W.cell? ad = some (.slice KX ckl.length cK)) := Lib.hid (fun W hW => (hW.cell (p := ad) hba).trans (by have := cu.zero; simpa [Addr.add] using this))
      have hcl : ckl.length * 32 ≤ 140737488351232 := hcok.1
      dsimp only at HPG
      clear hcok cu au hv0 hkx lu hl0
      obtain ⟨N, hN⟩ : ∃ N, max 1 so.length = N := ⟨_, rfl⟩
      rw [hN] at HPG
      have HNN := Lib.hid hN
      clear hN
      have r10 : wc.cell? ⟨w.heap.size + 1, 10, none⟩ = some (.slice A4 so.length c4) := (HBR.out _ H5.out).cell 10
      go_upto_if 66 with fail
      go_cut [7] from 58 to 66 (fun v wx => v = .int .i64 (N : Int) ∧ wc = wx)
      case first =>
        by_cases hs0 : so.length = 0
        · have d2 : ((so.length : Int) == (0 : Int)) = true := by rw [beq_iff_eq]; omega
          have HN1 : Hid ((N : Int) = 1) := Lib.hid (by rw [← HNN.out]; omega)
          clear hs0
          go_wp2_with fail
          go_meet
          exact ⟨by rw [HN1.out], rfl⟩
        · have d2 : ((so.length : Int) == (0 : Int)) = false := by rw [beq_eq_false_iff_ne]; omega
          have HN1 : Hid ((N : Int) = (so.length : Int)) := Lib.hid (by rw [← HNN.out]; omega)
          clear hs0
          go_wp2_with fail
          go_meet
          exact ⟨by rw [HN1.out], rfl⟩
      case rest =>
      obtain ⟨rfl, rfl⟩ := hcut
      clear r10
      have a0 := HAD.out _ (HBw.out _ H5.out)
      have hba5 : ad.block < wc.heap.size := by have := HG1.out _ H5.out; omega
      by_cases hcn : ckl.length = N
      case neg =>
        have d3 : ((ckl.length : Int) != (N : Int)) = true := by rw [bne_iff_ne]; omega
        have HX : Hid (e0 = 185) := Lib.hid (by rw [← HR5.out, HPG.out, if_neg hcn]; rfl)
        clear hcn
        go_wp2_with fail
        go_ret
        rw [HX.out]
        exact ⟨rfl, HBw.out _ H5.out⟩
      have d3 : ((ckl.length : Int) != (N : Int)) = false := by rw [bne_eq_false_iff_eq]; omega
      have hn1 : N ≤ ckl.length := by omega
      have hn2 : ckl.length ≤ N := by omega
      obtain ⟨bt, hbt⟩ : ∃ bt, ckl.any (fun b => !rightT b) = bt := ⟨_, rfl⟩
      have HP2 : Hid (orE (if bt = true then 185 else 0) (orE gf (fieldsF l fl)) = e0) := Lib.hid (by rw [← HR5.out, HPG.out, if_pos hcn, hbt, HNX.out])
      have HT0 : Hid ((ckl.drop 0).any (fun b => !rightT b) = bt) := Lib.hid hbt
      clear hcn hbt HPG HNX HNN
      go_wp2_with fail
      go_loopw [8] (fun i wr => ∃ j : Nat, j ≤ N ∧ i = .int .i64 j ∧ Hid ((ckl.drop j).any (fun b => !rightT b) = bt) ∧ Hid (Below (w.heap.size + 2) w1 wr)) (fun i _ => N - (intOf i).toNat)
      case atStart => exact ⟨0, by omega, rfl, HT0, H5⟩
      case round =>
        clear a0 r11 HT0 H5
        obtain ⟨j, hj, rfl, HJ, HW⟩ := hrel
        by_cases hjl : j < N
        · have hjc : j < ckl.length := by omega
          have hjc2 : (j : Int) < (ckl.length : Int) := by omega
          have hjn2 : (j : Int) < (N : Int) := by omega
          have hj0 : (0 : Int) ≤ (j : Int) := by omega
          have a0 := HAD.out _ (HBw.out _ HW.out)
          have r11 : wr.cell? ⟨w.heap.size + 1, 11, none⟩ = some (.slice (some ad) af.length c5) := (HBR.out _ HW.out).cell 11
          have hba6 : ad.block < wr.heap.size := by have := HG1.out _ HW.out; omega
          have HJS : Hid ((!rightT ckl[j] || (ckl.drop (j + 1)).any (fun b => !rightT b)) = bt) := Lib.hid (by rw [← HJ.out, List.drop_eq_getElem_cons hjc, List.any_cons])
          obtain ⟨ak, rfl, hbk, ck⟩ := HKX.out j hjc
          replace ck := ck.keep (w' := wr) (fun p hp => (HBw.out _ HW.out).cell (by rw [hp, block_of_add]; exact hbk))
          have hbk6 : (ak.add (j * 3)).block < wr.heap.size := by rw [block_of_add]; have := HG1.out _ HW.out; omega
          have HRT := Lib.hid (refRight_any ckl[j] wr)
          generalize ckl[j] = q at *
          obtain ⟨k1, k2, k3⟩ := q
          unfold keyV at HRT
          dsimp only at HRT ck
          have b0 := ck.zero
          have b1 := ck.at_ 1 _ rfl (by omega)
          have b2 := ck.at_ 2 _ rfl (by omega)
          generalize rightT ⟨k1, k2, k3⟩ = rt at *
          clear ck HJ
          go_wp2_with fail
          refine HRT.out.mono ?_
          rintro e w7 ⟨rfl, hb⟩
          have H7 := Lib.hid (HW.out.trans (hb.mono (HG1.out _ HW.out)))
          clear hb b0 b1 b2 a0 r11
          cases rt with
          | false =>
            have HY : Hid (bt = true) := Lib.hid (HJS.out.symm)
            have HX : Hid (e0 = 185) := Lib.hid (by rw [← HP2.out, HY.out]; rfl)
            go_wp2_with fail
            go_ret
            rw [HX.out]
            exact ⟨rfl, HBw.out _ H7.out⟩
          | true =>
            have HJ2 : Hid ((ckl.drop (j + 1)).any (fun b => !rightT b) = bt) := Lib.hid HJS.out
            go_wp2_with fail
            go_roundw
            case rel => exact ⟨j + 1, by omega, by go_num, HJ2, H7⟩
            case measure => simp [intOf]; omega
        · obtain rfl : j = N := by omega
          have HY : Hid (bt = false) := Lib.hid (by rw [← HJ.out, List.drop_eq_nil_of_le (by omega)]; rfl)
          have HX : Hid (orE gf (fieldsF l fl) = e0) := Lib.hid (by rw [← HP2.out, HY.out]; rfl)
          go_wp2_with fail
          go_meet
          exact ⟨HW, HX⟩
  case rest =>
  clear H5 HR5 r11 HPK HAO EL5
  obtain ⟨H6, HR6⟩ := hcut
  have s0 : wc.cell? ⟨w.heap.size, 0, none⟩ = some (.slice A l.length cap) := (HBS.out _ H6.out).cell 0
  have r14 : wc.cell? ⟨w.heap.size + 1, 14, none⟩ = some (.slice A6 ag.length c6) := (HBR.out _ H6.out).cell 14
  go_wp2_with fail
  refine (HAG.out _ (HBw.out _ H6.out)).mono ?_
  rintro e w8 ⟨rfl, hb⟩
  have H8 := Lib.hid (H6.out.trans (hb.mono (HG1.out _ H6.out)))
  clear hb s0 r14 H6 HAG
  by_cases he : gf = 0
  case neg =>
    have hen : (gf != (0 : Int)) = true := by rw [bne_iff_ne]; exact he
    have HZ : Hid (e0 = gf) := Lib.hid (by rw [← HR6.out, orE, if_neg he])
    clear he
    go_wp2_with fail
    go_ret
    rw [HZ.out]
    exact ⟨rfl, HBw.out _ H8.out⟩
  subst he
  have HF0 : Hid (fieldsF l (fl.drop 0) = e0) := Lib.hid (by rw [List.drop_zero]; exact HR6.out)
  clear HR6
  go_wp2_with fail
  go_loopw [9] (fun i wr => ∃ k : Nat, k ≤ fl.length ∧ i = .int .i64 k ∧ Hid (fieldsF l (fl.drop k) = e0) ∧ Hid (Below (w.heap.size + 2) w1 wr)) (fun i _ => fl.length - (intOf i).toNat)
  case atStart => exact ⟨0, by omega, rfl, HF0, H8⟩
  case round =>
    clear HF0 H8
    obtain ⟨k, hkk, rfl, HK, HW⟩ := hrel
    have r15 : wr.cell? ⟨w.heap.size + 1, 15, none⟩ = some (.slice A7 fl.length c7) := (HBR.out _ HW.out).cell 15
    have hzr : w.heap.size + 2 ≤ wr.heap.size := HG1.out _ HW.out
    by_cases hlt : k < fl.length
    · have hlt2 : (k : Int) < (fl.length : Int) := by omega
      have hk0 : (0 : Int) ≤ (k : Int) := by omega
      obtain ⟨ad7, us, rfl, hba, au, lu, cu⟩ := EL7.out k hlt
      have HD := Lib.hid ((fieldsF_drop l fl k hlt).symm.trans HK.out)
      generalize fl[k] = s9 at *
      rw [strcells] at au
      obtain ⟨v0, r0, rfl, h0, h1⟩ := AtL.cons_ au
      obtain rfl := AtL.nil_ h1
      simp only [T.At] at h0
      subst h0
      have HCF : Hid (∀ W, Below w.heap.size w W → W.cell? (ad7.add k) = some (.string s9)) := Lib.hid (fun W hW => (hW.cell (p := ad7.add k) (by rw [block_of_add]; exact hba)).trans (by have := cu.zero; rwa [Nat.mul_one] at this))
      clear cu au h1 lu HK
      go_upto_region 33 with fail
      have hd33 : Below wr.heap.size wr wr.drew := (Below.refl _ wr).drew
      clear r15
      refine wp_region_held_drew (S := fun V => Below wr.heap.size wr V) (by kernel_rfl) hd33 (fun hSp0 => ?_)
      refine' wpAnyH_take (i := 0) (v := _) (by simp only [List.getElem?_toArray, List.getElem?_cons_zero]; rfl) (by kernel_rfl) (by kernel_rfl) (by kernel_rfl) (by exact fun _ _ _ h => h) (Or.inl ⟨by rfl, ?hyp0⟩) hSp0 ?restp0
      case hyp0 => intro V hSw; have fq := (HBS.out V (HW.out.trans (hSw.mono hzr))).cell 0; clear hSw; go_simp; try with_reducible rfl
      try simp only [Act.put, List.setIfInBounds_toArray, List.set_cons_zero, List.set_cons_succ]
      refine' wpAnyH_take (i := 1) (v := _) (by simp only [List.getElem?_toArray, List.getElem?_cons_succ, List.getElem?_cons_zero]; rfl) (by kernel_rfl) (by kernel_rfl) (by kernel_rfl) (by exact fun _ _ _ h => h) (Or.inl ⟨by rfl, ?hyp1⟩) hSp0 ?restp1
      case hyp1 => intro V hSw; clear hSw; go_simp; try with_reducible rfl
      try simp only [Act.put, List.setIfInBounds_toArray, List.set_cons_zero, List.set_cons_succ]
      refine' wpAnyH_take (i := 2) (v := _) (by simp only [List.getElem?_toArray, List.getElem?_cons_succ, List.getElem?_cons_zero]; rfl) (by kernel_rfl) (by kernel_rfl) (by kernel_rfl) (by exact fun _ _ _ h => h) (Or.inl ⟨by rfl, ?hyp2⟩) hSp0 ?restp2
      case hyp2 => intro V hSw; have fq := (HBR.out V (HW.out.trans (hSw.mono hzr))).cell 15; clear hSw; go_simp; try with_reducible rfl
      try simp only [Act.put, List.setIfInBounds_toArray, List.set_cons_zero, List.set_cons_succ]
      refine' wpAnyH_take (i := 3) (v := _) (by simp only [List.getElem?_toArray, List.getElem?_cons_succ, List.getElem?_cons_zero]; rfl) (by kernel_rfl) (by kernel_rfl) (by kernel_rfl) (by exact fun _ _ _ h => h) (Or.inl ⟨by rfl, ?hyp3⟩) hSp0 ?restp3
      case hyp3 => intro V hSw; clear hSw; go_simp; try with_reducible rfl
      try simp only [Act.put, List.setIfInBounds_toArray, List.set_cons_zero, List.set_cons_succ]
      refine' wpAnyH_take (i := 4) (v := _) (by simp only [List.getElem?_toArray, List.getElem?_cons_succ, List.getElem?_cons_zero]; rfl) (by kernel_rfl) (by kernel_rfl) (by kernel_rfl) (by exact fun _ _ _ h => h) (Or.inl ⟨by rfl, ?hyp4⟩) hSp0 ?restp4
      case hyp4 => intro V hSw; clear hSw; go_simp; try with_reducible rfl
      try simp only [Act.put, List.setIfInBounds_toArray, List.set_cons_zero, List.set_cons_succ]
      refine' wpAnyH_take (i := 5) (v := _) (by simp only [List.getElem?_toArray, List.getElem?_cons_succ, List.getElem?_cons_zero]; rfl) (by kernel_rfl) (by kernel_rfl) (by kernel_rfl) (by exact fun _ _ _ h => h) (Or.inl ⟨by rfl, ?hyp5⟩) hSp0 ?restp5
      case hyp5 => intro V hSw; have fq := HCF.out V (HBw.out _ (HW.out.trans (hSw.mono hzr))); clear hSw; go_simp; try with_reducible rfl
      try simp only [Act.put, List.setIfInBounds_toArray, List.set_cons_zero, List.set_cons_succ]
      refine wpAnyH_ready (rs := [6]) (by kernel_rfl) (by simp) ?_
      refine' AllReadyH.cons (by simp only [List.getElem?_toArray, List.getElem?_cons_succ, List.getElem?_cons_zero]; rfl) (fun K hK => ?_) AllReadyH.nil
      go_simp
      refine (HFI.out s9 _ (HBw.out _ (HW.out.trans (hSp0.mono hzr)))).mono ?_
      rintro e Vp1 ⟨rfl, q⟩
      have Bp1 := Lib.hid (Below.trans hSp0 (q.mono (hSp0).size))
      clear q
      go_simp
      refine hK.out _ _ Bp1.out (fun hSp1 => ?_)
      try simp only [Act.put, List.setIfInBounds_toArray, List.set_cons_zero, List.set_cons_succ]
      refine' wpAnyH_take (i := 7) (v := _) (by simp only [List.getElem?_toArray, List.getElem?_cons_succ, List.getElem?_cons_zero]; rfl) (by kernel_rfl) (by kernel_rfl) (by kernel_rfl) (by exact fun _ _ _ h => h) (Or.inl ⟨by rfl, ?hyp7⟩) hSp1 ?restp7
      case hyp7 => intro V hSw; clear hSw; go_simp; try with_reducible rfl
      try simp only [Act.put, List.setIfInBounds_toArray, List.set_cons_zero, List.set_cons_succ]
      refine wpAnyH_done (by kernel_rfl) ?_ _
      have H9 := Lib.hid (HW.out.trans (Bp1.out.mono hzr))
      clear hSp0 hSp1 hd33
      rcases find_cases l s9 with ⟨hz, hG⟩ | ⟨i, hil, hz, hG⟩
      · have HX : Hid (e0 = 81) := Lib.hid (by rw [← HD.out, hG]; rfl)
        rw [hz]
        clear hz hG
        go_wp2_with fail
        go_ret
        rw [HX.out]
        exact ⟨rfl, HBw.out _ H9.out⟩
      · obtain ⟨adF, uF, rfl, hbf, aF, lf, cf⟩ := ELF.out i hil
        replace cf := cf.keep (w' := Vp1) (fun p hp => (HBw.out _ H9.out).cell (by rw [hp, block_of_add]; exact hbf))
        have hi2 : (i : Int) < (l.length : Int) := by omega
        have hi0 : (0 : Int) ≤ (i : Int) := by omega
        have HME : Hid ((if l[i].stored = true then fieldsF l (fl.drop (k + 1)) else 82) = e0) := Lib.hid (by rw [← HD.out, hG]; rfl)
        have s0 : Vp1.cell? ⟨w.heap.size, 0, none⟩ = some (.slice (some adF) l.length cap) := (HBS.out _ H9.out).cell 0
        rw [hz]
        generalize l[i] = fe at *
        obtain ⟨f0, f1, f2, f3, f4, f5, f6⟩ := fe
        obtain ⟨vc, rfl, gc⟩ := at_fcells aF
        obtain ⟨x0, x1, x2, x3, x4, x5, x6⟩ := seven cf
        dsimp only at HME
        clear hz hG cf aF lf gc x0 x1 x2 x3 x4 x5 HD
        cases f6 with
        | true =>
          have HX : Hid (fieldsF l (fl.drop (k + 1)) = e0) := Lib.hid HME.out
          go_wp2_with fail
          go_roundw
          case rel => exact ⟨k + 1, by omega, by go_num, HX, H9⟩
          case measure => simp [intOf]; omega
        | false =>
          have HX : Hid (e0 = 82) := Lib.hid HME.out.symm
          go_wp2_with fail
          go_ret
          rw [HX.out]
          exact ⟨rfl, HBw.out _ H9.out⟩
    · obtain rfl : k = fl.length := by omega
      have HX : Hid (e0 = 0) := Lib.hid (by rw [← HK.out, List.drop_length, fieldsF])
      go_wp2_with fail
      go_ret
      rw [HX.out]
      exact ⟨rfl, HBw.out _ HW.out⟩
end Go.Proofs.YtinmiekbhoemjaaGreatDoor.Qck
