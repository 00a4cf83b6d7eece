/- Contract: lecternref18.part (written by gen_rpart.py). -/
import Derived.Test.YtinmiekbhoemjaaGreatDoorPack38
import Derived.Test.YtinmiekbhoemjaaGreatDoorPack41
import Derived.Test.YtinmiekbhoemjaaGreatDoorPack42
import Derived.Test.YtinmiekbhoemjaaGreatDoorAnaRefRun
import Derived.Deep.RegionHeld3
set_option linter.unusedVariables false
namespace Go.Proofs.YtinmiekbhoemjaaGreatDoor.Qck
open Go.RowKit Words Tree SchP QckP Kit Owned Sch Qry QryP FoldNext AnaP Ana
set_option maxRecDepth 100000 in
set_option maxHeartbeats 16000000 in
theorem refPart_step (us : Value) (l : List FT) (n : Nat) (IHn : ∀ (q : QT) (vs : List Value) (under : Int) (above : Nat) (w : World), q.sz ≤ n → above ≤ 6 → Ok q → T.AtL bare w (fun g => g < w.heap.size) (cells q) vs → T.At bare w (fun g => g < w.heap.size) (fieldsT l) us → l.length * 72 ≤ 140737488351232 →
    Calls Tryz.prog 20 #[.agg #[us], .agg vs.toArray, .int .i64 under, .int .i64 above] w (Sch.IntB (partF l under above q) w)) :
    ∀ (q : QT) (vs : List Value) (under : Int) (above : Nat) (w : World), q.sz ≤ n + 1 → above ≤ 6 → Ok q → T.AtL bare w (fun g => g < w.heap.size) (cells q) vs → T.At bare w (fun g => g < w.heap.size) (fieldsT l) us → l.length * 72 ≤ 140737488351232 →
    Calls Tryz.prog 20 #[.agg #[us], .agg vs.toArray, .int .i64 under, .int .i64 above] w (Sch.IntB (partF l under above q) w)
  | .mk kd oc f t u lo hi b op ks, vs, under, above, w, hn, hab, hok, ha, hus, hl => by
    cases hok with
    | mk hkd hoc hf ht hu hlo hhi hb hop hks hkk =>
    obtain ⟨r, hr⟩ : ∃ r, partF l under above (.mk kd oc f t u lo hi b op ks) = r := ⟨_, rfl⟩
    have HR : Hid (orE (partO l (.mk kd oc f t u lo hi b op ks) under above) (partL l kd (above + 1) ks) = r) := Lib.hid (by rw [← hr, partF])
    rw [hr]
    clear hr
    have IH := Lib.hid (fun (k : QT) (hk : k ∈ ks) (vs : List Value) (un : Int) (W : World) (hW : Below w.heap.size w W) (ha6 : above + 1 ≤ 6) (hu : T.AtL bare W (fun g => g < W.heap.size) (cells k) vs) => IHn k vs un (above + 1) W (by have := QT.sz_kid (kd := kd) (oc := oc) (f := f) (t := t) (u := u) (lo := lo) (hi := hi) (b := b) (op := op) hk; omega) ha6 (hkk k hk) hu (At.below hus hW (fun g hg => Nat.lt_of_lt_of_le hg hW.size)) hl)
    have HFI := Lib.hid (fun (W : World) (hW : Below w.heap.size w W) => refFind_any us l f W (At.below hus hW (fun g hg => Nat.lt_of_lt_of_le hg hW.size)) hl)
    obtain ⟨AF, capF, rfl, hcF, hmF, helF⟩ := at_row fcells_len hus
    have ELF := Lib.hid helF
    obtain ⟨vl, vh, vk, rfl, hvl, hvh, hvk⟩ := at_cells ha
    obtain ⟨A1, c1, rfl, _⟩ := at_ints hvl
    obtain ⟨A2, c2, rfl, _⟩ := at_ints hvh
    obtain ⟨A, cA, rfl, hcA, hmA, hel⟩ := at_kids hvk
    have EL := Lib.hid hel
    have HO := Lib.hid (fun W => rown_any kd oc f t u lo hi b op ks A1 A2 A c1 c2 cA under W hf)
    have htl : t.size ≤ 9223372036854775807 := by omega
    have hkm : ks.length ≤ 9223372036854775807 := by unfold maxLen at hmA; omega
    clear ha hvl hvh hvk hel hkk hkd hoc hu hlo hhi hb hop hks hf hn ht hus helF IHn
    have hB0 : Below w.heap.size w ((w.alloc (Obj.cells #[.slice AF l.length capF] 24)).alloc (Obj.cells #[.int .i64 kd, .int .i64 oc, .string f, .string t, .string u, .slice A1 lo.length c1, .slice A2 hi.length c2, .int .i64 b, .int .i64 op, .slice A ks.length cA] 28)) := ((Below.refl _ w).alloc (Nat.le_refl _) _).alloc (by simp) _
    have HB0 := Lib.hid hB0
    have BS0 := Lib.hid ((Blk.new w 24 #[.slice AF l.length capF]).alloc (Obj.cells #[.int .i64 kd, .int .i64 oc, .string f, .string t, .string u, .slice A1 lo.length c1, .slice A2 hi.length c2, .int .i64 b, .int .i64 op, .slice A ks.length cA] 28))
    have bq0 := Blk.new (w.alloc (Obj.cells #[.slice AF l.length capF] 24)) 28 #[.int .i64 kd, .int .i64 oc, .string f, .string t, .string u, .slice A1 lo.length c1, .slice A2 hi.length c2, .int .i64 b, .int .i64 op, .slice A ks.length cA]
    have hz1 : (w.alloc (Obj.cells #[.slice AF l.length capF] 24)).heap.size = w.heap.size + 1 := by simp
    rw [hz1] at bq0
    have BQ0 := Lib.hid bq0
    clear hB0 bq0 hz1
    by_cases h6 : 6 ≤ above
    · obtain rfl : above = 6 := by omega
      have HR2 : Hid (r = 182) := Lib.hid (by rw [← HR.out, partO_eq, if_pos h6]; rfl)
      clear h6 hab
      go_enter Tryz.func20, Tryz.ntmps20
      go_wp2_with fail
      go_ret
      rw [HR2.out]
      exact ⟨rfl, HB0.out⟩
    have hd6 : decide ((5 : Int) < (above : Int)) = false := decide_eq_false (by omega)
    by_cases h32 : 32 < ks.length
    · have HR2 : Hid (r = 84) := Lib.hid (by rw [← HR.out, partO_eq, if_neg h6, if_pos h32]; rfl)
      have hd2 : decide ((32 : Int) < (ks.length : Int)) = true := decide_eq_true (by omega)
      go_enter Tryz.func20, Tryz.ntmps20
      go_wp2_with fail
      go_ret
      rw [HR2.out]
      exact ⟨rfl, HB0.out⟩
    have hd2 : decide ((32 : Int) < (ks.length : Int)) = false := decide_eq_false (by omega)
    have HR2 : Hid (orE (if ownB (.mk kd oc f t u lo hi b op ks) under then askF l (.mk kd oc f t u lo hi b op ks) else 181) (partL l kd (above + 1) ks) = r) := Lib.hid (by rw [← HR.out, partO_eq, if_neg h6, if_neg h32])
    clear HR
    generalize ownB (.mk kd oc f t u lo hi b op ks) under = p at *
    clear hcA hmA hcF hmF
    go_enter Tryz.func20, Tryz.ntmps20
    go_upto_region 1 with fail
    generalize (Value.agg #[.slice AF l.length capF]) = va
    generalize (Value.agg #[.int .i64 kd, .int .i64 oc, .string f, .string t, .string u, .slice A1 lo.length c1, .slice A2 hi.length c2, .int .i64 b, .int .i64 op, .slice A ks.length cA]) = vb
    have hz0 : ((w.alloc (Obj.cells #[.slice AF l.length capF] 24)).alloc (Obj.cells #[.int .i64 kd, .int .i64 oc, .string f, .string t, .string u, .slice A1 lo.length c1, .slice A2 hi.length c2, .int .i64 b, .int .i64 op, .slice A ks.length cA] 28)).heap.size = w.heap.size + 2 := by simp
    generalize (w.alloc (Obj.cells #[.slice AF l.length capF] 24)).alloc (Obj.cells #[.int .i64 kd, .int .i64 oc, .string f, .string t, .string u, .slice A1 lo.length c1, .slice A2 hi.length c2, .int .i64 b, .int .i64 op, .slice A ks.length cA] 28) = W0 at *
    have s0 : W0.cell? ⟨w.heap.size, 0, none⟩ = some (.slice AF l.length capF) := BS0.out.cell 0
    have q0 : W0.cell? ⟨w.heap.size + 1, 0, none⟩ = some (.int .i64 kd) := BQ0.out.cell 0
    have q1 : W0.cell? ⟨w.heap.size + 1, 1, none⟩ = some (.int .i64 oc) := BQ0.out.cell 1
    have q2 : W0.cell? ⟨w.heap.size + 1, 2, none⟩ = some (.string f) := BQ0.out.cell 2
    have q3 : W0.cell? ⟨w.heap.size + 1, 3, none⟩ = some (.string t) := BQ0.out.cell 3
    have q4 : W0.cell? ⟨w.heap.size + 1, 4, none⟩ = some (.string u) := BQ0.out.cell 4
    have q5 : W0.cell? ⟨w.heap.size + 1, 5, none⟩ = some (.slice A1 lo.length c1) := BQ0.out.cell 5
    have q6 : W0.cell? ⟨w.heap.size + 1, 6, none⟩ = some (.slice A2 hi.length c2) := BQ0.out.cell 6
    have q7 : W0.cell? ⟨w.heap.size + 1, 7, none⟩ = some (.int .i64 b) := BQ0.out.cell 7
    have q8 : W0.cell? ⟨w.heap.size + 1, 8, none⟩ = some (.int .i64 op) := BQ0.out.cell 8
    have q9 : W0.cell? ⟨w.heap.size + 1, 9, none⟩ = some (.slice A ks.length cA) := BQ0.out.cell 9
    go_wp2_with fail
    clear q0 q1 q2 q3 q4 q5 q6 q7 q8 q9 s0
    refine (HO.out _).mono ?_
    rintro e w2 ⟨rfl, hb⟩
    have HB := Lib.hid (HB0.out.trans (hb.mono (by omega)))
    have BS := Lib.hid (BS0.out.below hb (by omega))
    have BQ := Lib.hid (BQ0.out.below hb (by omega))
    have hgz : w.heap.size + 2 ≤ w2.heap.size := by have := hb.size; omega
    clear hb hz0 HB0 BS0 BQ0
    cases p with
    | false =>
      have HR3 : Hid (r = 181) := Lib.hid (HR2.out.symm)
      go_wp2_with fail
      go_ret
      rw [HR3.out]
      exact ⟨rfl, HB.out⟩
    | true =>
      have HR3 : Hid (orE (askF l (.mk kd oc f t u lo hi b op ks)) (partL l kd (above + 1) ks) = r) := Lib.hid (HR2.out)
      have HAE := Lib.hid (askF_eq l (.mk kd oc f t u lo hi b op ks))
      have q0 : w2.cell? ⟨w.heap.size + 1, 0, none⟩ = some (.int .i64 kd) := BQ.out.cell 0
      have q2 : w2.cell? ⟨w.heap.size + 1, 2, none⟩ = some (.string f) := BQ.out.cell 2
      have s0 : w2.cell? ⟨w.heap.size, 0, none⟩ = some (.slice AF l.length capF) := BS.out.cell 0
      go_upto_region 7 with fail
      obtain ⟨fb, hfb⟩ : ∃ fb : Bool, fb = !decide (f.size = 0) := ⟨_, rfl⟩
      have HFB := Lib.hid hfb
      clear hfb
      go_cut [28] (fun c wx => c = .bool fb ∧ w2 = wx)
      case first =>
        rcases empty_cases f with rfl | ⟨hne, hn2, hn3, hn4, hn5⟩
        · obtain rfl : fb = false := HFB.out
          go_wp2_with fail
          go_meet
          exact ⟨rfl, rfl⟩
        · obtain rfl : fb = true := by rw [HFB.out, decide_eq_false hn5]; rfl
          clear hn5
          go_wp2_with fail
          go_meet
          exact ⟨rfl, rfl⟩
      case rest =>
      obtain ⟨rfl, rfl⟩ := hcut
      go_upto_if 28 with fail
      go_cut [9, 10, 11, 12, 13, 42, 54, 59, 88] (fun _ _ _ _ _ _ _ _ _ wx => Hid (Below w.heap.size w wx) ∧ Hid (Blk wx w.heap.size 24 #[.slice AF l.length capF]) ∧ Hid (Blk wx (w.heap.size + 1) 28 #[.int .i64 kd, .int .i64 oc, .string f, .string t, .string u, .slice A1 lo.length c1, .slice A2 hi.length c2, .int .i64 b, .int .i64 op, .slice A ks.length cA]) ∧ Hid (partL l kd (above + 1) ks = r))
      case first =>
        cases fb with
        | false =>
          have HZ : Hid (partL l kd (above + 1) ks = r) := Lib.hid (by
            have h0 : f.size = 0 := by have := HFB.out; simpa using this
            rw [← HR3.out, HAE.out, fd, if_pos h0]; rfl)
          go_wp2_with fail
          go_meet
          exact ⟨HB, BS, BQ, HZ⟩
        | true =>
          have hn5 : ¬ f.size = 0 := by have := HFB.out; simpa using this
          have HAE2 : Hid (askF l (.mk kd oc f t u lo hi b op ks) = if (fieldG l f).2 = 0 then mayE (.mk kd oc f t u lo hi b op ks) (fieldG l f).1 else (fieldG l f).2) := Lib.hid (by rw [HAE.out, fd, if_neg hn5])
          clear HAE hn5 HFB
          go_wp2_with fail
          refine (HFI.out _ HB.out).mono ?_
          rintro e w3 ⟨rfl, hb⟩
          have HB3 := Lib.hid (HB.out.trans (hb.mono HB.out.size))
          have BS3 := Lib.hid (BS.out.below hb BS.out.lt)
          have BQ3 := Lib.hid (BQ.out.below hb BQ.out.lt)
          have hz3 := hb.size
          clear hb q0 q2 s0
          rcases find_cases l f with ⟨hz, hG⟩ | ⟨i, hil, hz, hG⟩
          · have HR4 : Hid (r = 81) := Lib.hid (by rw [← HR3.out, HAE2.out, hG]; rfl)
            rw [hz]
            clear hz hG
            go_wp2_with fail
            go_ret
            rw [HR4.out]
            exact ⟨rfl, HB3.out⟩
          · obtain ⟨adF, uF, rfl, hbf, af, lf, cf⟩ := ELF.out i hil
            replace cf := cf.keep (w' := w3) (fun p hp => HB3.out.cell (by rw [hp, block_of_add]; exact hbf))
            have hi2 : (i : Int) < (l.length : Int) := by omega
            have hi0 : (0 : Int) ≤ (i : Int) := by omega
            have hab3 : (adF.add (i * 7)).block < w3.heap.size := by rw [block_of_add]; have := HB3.out.size; omega
            have HME0 : Hid (orE (mayE (.mk kd oc f t u lo hi b op ks) l[i]) (partL l kd (above + 1) ks) = r) := Lib.hid (by rw [← HR3.out, HAE2.out, hG, if_pos rfl])
            have s0 : w3.cell? ⟨w.heap.size, 0, none⟩ = some (.slice (some adF) l.length capF) := BS3.out.cell 0
            rw [hz]
            generalize l[i] = fe at *
            obtain ⟨f0, f1, f2, f3, f4, f5, f6⟩ := fe
            obtain ⟨vc, rfl, gc⟩ := at_fcells af
            obtain ⟨X, z, rfl, hxc, hxm, hx⟩ := at_nums gc
            obtain ⟨x0, x1, x2, x3, x4, x5, x6⟩ := seven cf
            have HX := Lib.hid (hx.below HB3.out)
            clear hz hG cf af lf gc hx HAE2 HR3 HR2
            go_upto_region 12 with fail
            have hzz : (w3.alloc (Obj.cells #[.string f0, .int .i64 f1, .slice X f2.length z, .int .i64 f3, .int .i64 f4, .bool f5, .bool f6] 46)).heap.size = w3.heap.size + 1 := by simp
            have HB4 := Lib.hid (HB3.out.alloc HB3.out.size (Obj.cells #[.string f0, .int .i64 f1, .slice X f2.length z, .int .i64 f3, .int .i64 f4, .bool f5, .bool f6] 46))
            have BS4 := Lib.hid (BS3.out.alloc (Obj.cells #[.string f0, .int .i64 f1, .slice X f2.length z, .int .i64 f3, .int .i64 f4, .bool f5, .bool f6] 46))
            have BQ4 := Lib.hid (BQ3.out.alloc (Obj.cells #[.string f0, .int .i64 f1, .slice X f2.length z, .int .i64 f3, .int .i64 f4, .bool f5, .bool f6] 46))
            have BF4 := Lib.hid (Blk.new w3 46 #[.string f0, .int .i64 f1, .slice X f2.length z, .int .i64 f3, .int .i64 f4, .bool f5, .bool f6])
            have hsz := HB3.out.size
            have HX4 := Lib.hid ((HX.out.alloc (by omega) (Obj.cells #[.string f0, .int .i64 f1, .slice X f2.length z, .int .i64 f3, .int .i64 f4, .bool f5, .bool f6] 46)).more (B' := (w3.alloc (Obj.cells #[.string f0, .int .i64 f1, .slice X f2.length z, .int .i64 f3, .int .i64 f4, .bool f5, .bool f6] 46)).heap.size) (by omega))
            clear x0 x1 x2 x3 x4 x5 x6 s0 hab3 HX
            generalize w3.alloc (Obj.cells #[.string f0, .int .i64 f1, .slice X f2.length z, .int .i64 f3, .int .i64 f4, .bool f5, .bool f6] 46) = w4 at *
            generalize w3.heap.size = gf at *
            obtain ⟨p0, p1, p2, p3, p4, p5, p6⟩ := blk7 BF4.out
            have q0 : w4.cell? ⟨w.heap.size + 1, 0, none⟩ = some (.int .i64 kd) := BQ4.out.cell 0
            have q3 : w4.cell? ⟨w.heap.size + 1, 3, none⟩ = some (.string t) := BQ4.out.cell 3
            have q5 : w4.cell? ⟨w.heap.size + 1, 5, none⟩ = some (.slice A1 lo.length c1) := BQ4.out.cell 5
            have HRUN := Lib.hid (refRun_any X f2.length z f2 t w4 rfl HX4.out hxc hxm htl)
            generalize (Value.agg #[.string f0, .int .i64 f1, .slice X f2.length z, .int .i64 f3, .int .i64 f4, .bool f5, .bool f6]) = vf
            clear hi2 hi0 BF4 HX4 hzz hsz p0 p3 p5 p6 IH HFI EL
            rcases (show kd = 3 ∨ kd = 4 ∨ kd = 5 ∨ kd = 6 ∨ kd = 7 ∨ kd = 10 ∨ (¬ kd = 3 ∧ ¬ kd = 4 ∧ ¬ kd = 5 ∧ ¬ kd = 6 ∧ ¬ kd = 7 ∧ ¬ kd = 10) by omega) with rfl | rfl | rfl | rfl | rfl | rfl | ⟨k3, k4, k5, k6, k7, k10⟩
            · rcases (show f1 = 1 ∨ f1 = 2 ∨ (¬ f1 = 1 ∧ ¬ f1 = 2) by omega) with rfl | rfl | ⟨g1, g2⟩
              ·
                obtain ⟨rr, hrr⟩ : ∃ rr, runF f2 t = rr := ⟨_, rfl⟩
                rw [hrr] at HRUN
                obtain ⟨ts, m⟩ := rr
                have hr2 : (runF f2 t).2 = m := by rw [hrr]
                have HRN := Lib.hid hr2
                clear hrr hr2
                go_wp2_with fail
                refine HRUN.out.mono ?_
                rintro e w5 ⟨ao, c, rfl, _, hb⟩
                have HB5 := Lib.hid (HB4.out.trans (hb.mono HB4.out.size))
                have BS5 := Lib.hid (BS4.out.below hb BS4.out.lt)
                have BQ5 := Lib.hid (BQ4.out.below hb BQ4.out.lt)
                clear hb q0 q3 q5 p1 p2 p4
                by_cases hm0 : m = 0
                · subst hm0
                  have HV : Hid (mayE (.mk 3 oc f t u lo hi b op ks) ⟨f0, 1, f2, f3, f4, f5, f6⟩ = 0) := Lib.hid (by simp [mayE, mayP, numF, QryP.kd, QryP.lo, QryP.tx, HRN.out])
                  have HZ : Hid (partL l 3 (above + 1) ks = r) := Lib.hid (by rw [← HME0.out, HV.out]; rfl)
                  clear HME0 HV
                  go_wp2_with fail
                  go_meet
                  exact ⟨HB5, BS5, BQ5, HZ⟩
                · have hmn : (m != (0 : Int)) = true := by rw [bne_iff_ne]; exact hm0
                  have HV : Hid (mayE (.mk 3 oc f t u lo hi b op ks) ⟨f0, 1, f2, f3, f4, f5, f6⟩ = 181) := Lib.hid (by simp [mayE, mayP, numF, QryP.kd, QryP.lo, QryP.tx, HRN.out, hm0])
                  have HZ : Hid (r = 181) := Lib.hid (by rw [← HME0.out, HV.out]; rfl)
                  clear HME0 HV hm0
                  go_wp2_with fail
                  go_ret
                  rw [HZ.out]
                  exact ⟨rfl, HB5.out⟩
              ·
                have HV : Hid (mayE (.mk 3 oc f t u lo hi b op ks) ⟨f0, 2, f2, f3, f4, f5, f6⟩ = 0) := Lib.hid (by simp [mayE, mayP, numF, QryP.kd, QryP.lo, QryP.tx])
                have HZ : Hid (partL l 3 (above + 1) ks = r) := Lib.hid (by rw [← HME0.out, HV.out]; rfl)
                clear HME0 HV
                go_wp2_with fail
                go_meet
                exact ⟨HB4, BS4, BQ4, HZ⟩
              ·
                have nf1 : (f1 == (1 : Int)) = false := by rw [beq_eq_false_iff_ne]; exact g1
                have nf2 : (f1 == (2 : Int)) = false := by rw [beq_eq_false_iff_ne]; exact g2
                have HV : Hid (mayE (.mk 3 oc f t u lo hi b op ks) ⟨f0, f1, f2, f3, f4, f5, f6⟩ = 82) := Lib.hid (by simp [mayE, mayP, numF, QryP.kd, QryP.lo, QryP.tx, g1, g2])
                have HZ : Hid (r = 82) := Lib.hid (by rw [← HME0.out, HV.out]; rfl)
                clear HME0 HV g1 g2
                go_wp2_with fail
                go_ret
                rw [HZ.out]
                exact ⟨rfl, HB4.out⟩
            · by_cases g1 : f1 = 1
              · subst g1
                obtain ⟨rr, hrr⟩ : ∃ rr, runF f2 t = rr := ⟨_, rfl⟩
                rw [hrr] at HRUN
                obtain ⟨ts, m⟩ := rr
                have hr2 : (runF f2 t).2 = m := by rw [hrr]
                have HRN := Lib.hid hr2
                clear hrr hr2
                go_wp2_with fail
                refine HRUN.out.mono ?_
                rintro e w5 ⟨ao, c, rfl, _, hb⟩
                have HB5 := Lib.hid (HB4.out.trans (hb.mono HB4.out.size))
                have BS5 := Lib.hid (BS4.out.below hb BS4.out.lt)
                have BQ5 := Lib.hid (BQ4.out.below hb BQ4.out.lt)
                clear hb q0 q3 q5 p1 p2 p4
                by_cases hm0 : m = 0
                · subst hm0
                  have HV : Hid (mayE (.mk 4 oc f t u lo hi b op ks) ⟨f0, 1, f2, f3, f4, f5, f6⟩ = 0) := Lib.hid (by simp [mayE, mayP, numF, QryP.kd, QryP.lo, QryP.tx, HRN.out])
                  have HZ : Hid (partL l 4 (above + 1) ks = r) := Lib.hid (by rw [← HME0.out, HV.out]; rfl)
                  clear HME0 HV
                  go_wp2_with fail
                  go_meet
                  exact ⟨HB5, BS5, BQ5, HZ⟩
                · have hmn : (m != (0 : Int)) = true := by rw [bne_iff_ne]; exact hm0
                  have HV : Hid (mayE (.mk 4 oc f t u lo hi b op ks) ⟨f0, 1, f2, f3, f4, f5, f6⟩ = 181) := Lib.hid (by simp [mayE, mayP, numF, QryP.kd, QryP.lo, QryP.tx, HRN.out, hm0])
                  have HZ : Hid (r = 181) := Lib.hid (by rw [← HME0.out, HV.out]; rfl)
                  clear HME0 HV hm0
                  go_wp2_with fail
                  go_ret
                  rw [HZ.out]
                  exact ⟨rfl, HB5.out⟩
              ·
                have nf1 : (f1 == (1 : Int)) = false := by rw [beq_eq_false_iff_ne]; exact g1
                have HV : Hid (mayE (.mk 4 oc f t u lo hi b op ks) ⟨f0, f1, f2, f3, f4, f5, f6⟩ = 82) := Lib.hid (by simp [mayE, mayP, numF, QryP.kd, QryP.lo, QryP.tx, g1])
                have HZ : Hid (r = 82) := Lib.hid (by rw [← HME0.out, HV.out]; rfl)
                clear HME0 HV g1
                go_wp2_with fail
                go_ret
                rw [HZ.out]
                exact ⟨rfl, HB4.out⟩
            · rcases (show f1 = 1 ∨ f1 = 2 ∨ (¬ f1 = 1 ∧ ¬ f1 = 2) by omega) with rfl | rfl | ⟨g1, g2⟩
              ·
                have HV : Hid (mayE (.mk 5 oc f t u lo hi b op ks) ⟨f0, 1, f2, f3, f4, f5, f6⟩ = 0) := Lib.hid (by simp [mayE, mayP, numF, QryP.kd, QryP.lo, QryP.tx])
                have HZ : Hid (partL l 5 (above + 1) ks = r) := Lib.hid (by rw [← HME0.out, HV.out]; rfl)
                clear HME0 HV
                go_wp2_with fail
                go_meet
                exact ⟨HB4, BS4, BQ4, HZ⟩
              ·
                have HV : Hid (mayE (.mk 5 oc f t u lo hi b op ks) ⟨f0, 2, f2, f3, f4, f5, f6⟩ = 0) := Lib.hid (by simp [mayE, mayP, numF, QryP.kd, QryP.lo, QryP.tx])
                have HZ : Hid (partL l 5 (above + 1) ks = r) := Lib.hid (by rw [← HME0.out, HV.out]; rfl)
                clear HME0 HV
                go_wp2_with fail
                go_meet
                exact ⟨HB4, BS4, BQ4, HZ⟩
              ·
                have nf1 : (f1 == (1 : Int)) = false := by rw [beq_eq_false_iff_ne]; exact g1
                have nf2 : (f1 == (2 : Int)) = false := by rw [beq_eq_false_iff_ne]; exact g2
                have HV : Hid (mayE (.mk 5 oc f t u lo hi b op ks) ⟨f0, f1, f2, f3, f4, f5, f6⟩ = 82) := Lib.hid (by simp [mayE, mayP, numF, QryP.kd, QryP.lo, QryP.tx, g1, g2])
                have HZ : Hid (r = 82) := Lib.hid (by rw [← HME0.out, HV.out]; rfl)
                clear HME0 HV g1 g2
                go_wp2_with fail
                go_ret
                rw [HZ.out]
                exact ⟨rfl, HB4.out⟩
            · rcases (show f1 = 1 ∨ f1 = 2 ∨ (¬ f1 = 1 ∧ ¬ f1 = 2) by omega) with rfl | rfl | ⟨g1, g2⟩
              ·
                have HV : Hid (mayE (.mk 6 oc f t u lo hi b op ks) ⟨f0, 1, f2, f3, f4, f5, f6⟩ = 0) := Lib.hid (by simp [mayE, mayP, numF, QryP.kd, QryP.lo, QryP.tx])
                have HZ : Hid (partL l 6 (above + 1) ks = r) := Lib.hid (by rw [← HME0.out, HV.out]; rfl)
                clear HME0 HV
                go_wp2_with fail
                go_meet
                exact ⟨HB4, BS4, BQ4, HZ⟩
              ·
                have HV : Hid (mayE (.mk 6 oc f t u lo hi b op ks) ⟨f0, 2, f2, f3, f4, f5, f6⟩ = 0) := Lib.hid (by simp [mayE, mayP, numF, QryP.kd, QryP.lo, QryP.tx])
                have HZ : Hid (partL l 6 (above + 1) ks = r) := Lib.hid (by rw [← HME0.out, HV.out]; rfl)
                clear HME0 HV
                go_wp2_with fail
                go_meet
                exact ⟨HB4, BS4, BQ4, HZ⟩
              ·
                have nf1 : (f1 == (1 : Int)) = false := by rw [beq_eq_false_iff_ne]; exact g1
                have nf2 : (f1 == (2 : Int)) = false := by rw [beq_eq_false_iff_ne]; exact g2
                have HV : Hid (mayE (.mk 6 oc f t u lo hi b op ks) ⟨f0, f1, f2, f3, f4, f5, f6⟩ = 82) := Lib.hid (by simp [mayE, mayP, numF, QryP.kd, QryP.lo, QryP.tx, g1, g2])
                have HZ : Hid (r = 82) := Lib.hid (by rw [← HME0.out, HV.out]; rfl)
                clear HME0 HV g1 g2
                go_wp2_with fail
                go_ret
                rw [HZ.out]
                exact ⟨rfl, HB4.out⟩
            · rcases (show f1 = 3 ∨ f1 = 4 ∨ f1 = 5 ∨ (¬ f1 = 3 ∧ ¬ f1 = 4 ∧ ¬ f1 = 5) by omega) with rfl | rfl | rfl | ⟨g3, g4, g5⟩
              · by_cases h1 : lo.length = 1
                ·
                  have hi1 : ((lo.length : Int) == (1 : Int)) = true := by rw [beq_iff_eq]; omega
                  have HV : Hid (mayE (.mk 7 oc f t u lo hi b op ks) ⟨f0, 3, f2, f3, f4, f5, f6⟩ = 0) := Lib.hid (by simp [mayE, mayP, numF, QryP.kd, QryP.lo, QryP.tx, h1])
                  have HZ : Hid (partL l 7 (above + 1) ks = r) := Lib.hid (by rw [← HME0.out, HV.out]; rfl)
                  clear HME0 HV h1
                  go_wp2_with fail
                  go_meet
                  exact ⟨HB4, BS4, BQ4, HZ⟩
                ·
                  have hi1 : ((lo.length : Int) == (1 : Int)) = false := by rw [beq_eq_false_iff_ne]; omega
                  have HV : Hid (mayE (.mk 7 oc f t u lo hi b op ks) ⟨f0, 3, f2, f3, f4, f5, f6⟩ = 82) := Lib.hid (by simp [mayE, mayP, numF, QryP.kd, QryP.lo, QryP.tx, h1])
                  have HZ : Hid (r = 82) := Lib.hid (by rw [← HME0.out, HV.out]; rfl)
                  clear HME0 HV h1
                  go_wp2_with fail
                  go_ret
                  rw [HZ.out]
                  exact ⟨rfl, HB4.out⟩
              · by_cases h1 : lo.length = 1
                ·
                  have hi1 : ((lo.length : Int) == (1 : Int)) = true := by rw [beq_iff_eq]; omega
                  have HV : Hid (mayE (.mk 7 oc f t u lo hi b op ks) ⟨f0, 4, f2, f3, f4, f5, f6⟩ = 0) := Lib.hid (by simp [mayE, mayP, numF, QryP.kd, QryP.lo, QryP.tx, h1])
                  have HZ : Hid (partL l 7 (above + 1) ks = r) := Lib.hid (by rw [← HME0.out, HV.out]; rfl)
                  clear HME0 HV h1
                  go_wp2_with fail
                  go_meet
                  exact ⟨HB4, BS4, BQ4, HZ⟩
                ·
                  have hi1 : ((lo.length : Int) == (1 : Int)) = false := by rw [beq_eq_false_iff_ne]; omega
                  have HV : Hid (mayE (.mk 7 oc f t u lo hi b op ks) ⟨f0, 4, f2, f3, f4, f5, f6⟩ = 82) := Lib.hid (by simp [mayE, mayP, numF, QryP.kd, QryP.lo, QryP.tx, h1])
                  have HZ : Hid (r = 82) := Lib.hid (by rw [← HME0.out, HV.out]; rfl)
                  clear HME0 HV h1
                  go_wp2_with fail
                  go_ret
                  rw [HZ.out]
                  exact ⟨rfl, HB4.out⟩
              · by_cases h1 : (lo.length : Int) = f4
                ·
                  have hi1 : ((lo.length : Int) == f4) = true := by rw [beq_iff_eq]; exact h1
                  have HV : Hid (mayE (.mk 7 oc f t u lo hi b op ks) ⟨f0, 5, f2, f3, f4, f5, f6⟩ = 0) := Lib.hid (by simp [mayE, mayP, numF, QryP.kd, QryP.lo, QryP.tx, h1])
                  have HZ : Hid (partL l 7 (above + 1) ks = r) := Lib.hid (by rw [← HME0.out, HV.out]; rfl)
                  clear HME0 HV h1
                  go_wp2_with fail
                  go_meet
                  exact ⟨HB4, BS4, BQ4, HZ⟩
                ·
                  have hi1 : ((lo.length : Int) == f4) = false := by rw [beq_eq_false_iff_ne]; exact h1
                  have HV : Hid (mayE (.mk 7 oc f t u lo hi b op ks) ⟨f0, 5, f2, f3, f4, f5, f6⟩ = 82) := Lib.hid (by simp [mayE, mayP, numF, QryP.kd, QryP.lo, QryP.tx, h1])
                  have HZ : Hid (r = 82) := Lib.hid (by rw [← HME0.out, HV.out]; rfl)
                  clear HME0 HV h1
                  go_wp2_with fail
                  go_ret
                  rw [HZ.out]
                  exact ⟨rfl, HB4.out⟩
              ·
                have nf3 : (f1 == (3 : Int)) = false := by rw [beq_eq_false_iff_ne]; exact g3
                have nf4 : (f1 == (4 : Int)) = false := by rw [beq_eq_false_iff_ne]; exact g4
                have nf5 : (f1 == (5 : Int)) = false := by rw [beq_eq_false_iff_ne]; exact g5
                have HV : Hid (mayE (.mk 7 oc f t u lo hi b op ks) ⟨f0, f1, f2, f3, f4, f5, f6⟩ = 82) := Lib.hid (by simp [mayE, mayP, numF, QryP.kd, QryP.lo, QryP.tx, g3, g4, g5])
                have HZ : Hid (r = 82) := Lib.hid (by rw [← HME0.out, HV.out]; rfl)
                clear HME0 HV g3 g4 g5
                go_wp2_with fail
                go_ret
                rw [HZ.out]
                exact ⟨rfl, HB4.out⟩
            · rcases (show f1 = 3 ∨ f1 = 4 ∨ (¬ f1 = 3 ∧ ¬ f1 = 4) by omega) with rfl | rfl | ⟨g3, g4⟩
              ·
                have HV : Hid (mayE (.mk 10 oc f t u lo hi b op ks) ⟨f0, 3, f2, f3, f4, f5, f6⟩ = 0) := Lib.hid (by simp [mayE, mayP, numF, QryP.kd, QryP.lo, QryP.tx])
                have HZ : Hid (partL l 10 (above + 1) ks = r) := Lib.hid (by rw [← HME0.out, HV.out]; rfl)
                clear HME0 HV
                go_wp2_with fail
                go_meet
                exact ⟨HB4, BS4, BQ4, HZ⟩
              ·
                have HV : Hid (mayE (.mk 10 oc f t u lo hi b op ks) ⟨f0, 4, f2, f3, f4, f5, f6⟩ = 0) := Lib.hid (by simp [mayE, mayP, numF, QryP.kd, QryP.lo, QryP.tx])
                have HZ : Hid (partL l 10 (above + 1) ks = r) := Lib.hid (by rw [← HME0.out, HV.out]; rfl)
                clear HME0 HV
                go_wp2_with fail
                go_meet
                exact ⟨HB4, BS4, BQ4, HZ⟩
              ·
                have nf3 : (f1 == (3 : Int)) = false := by rw [beq_eq_false_iff_ne]; exact g3
                have nf4 : (f1 == (4 : Int)) = false := by rw [beq_eq_false_iff_ne]; exact g4
                have HV : Hid (mayE (.mk 10 oc f t u lo hi b op ks) ⟨f0, f1, f2, f3, f4, f5, f6⟩ = 82) := Lib.hid (by simp [mayE, mayP, numF, QryP.kd, QryP.lo, QryP.tx, g3, g4])
                have HZ : Hid (r = 82) := Lib.hid (by rw [← HME0.out, HV.out]; rfl)
                clear HME0 HV g3 g4
                go_wp2_with fail
                go_ret
                rw [HZ.out]
                exact ⟨rfl, HB4.out⟩
            ·
              have nk3 : (kd == (3 : Int)) = false := by rw [beq_eq_false_iff_ne]; exact k3
              have nk4 : (kd == (4 : Int)) = false := by rw [beq_eq_false_iff_ne]; exact k4
              have nk5 : (kd == (5 : Int)) = false := by rw [beq_eq_false_iff_ne]; exact k5
              have nk6 : (kd == (6 : Int)) = false := by rw [beq_eq_false_iff_ne]; exact k6
              have nk7 : (kd == (7 : Int)) = false := by rw [beq_eq_false_iff_ne]; exact k7
              have nk10 : (kd == (10 : Int)) = false := by rw [beq_eq_false_iff_ne]; exact k10
              have HV : Hid (mayE (.mk kd oc f t u lo hi b op ks) ⟨f0, f1, f2, f3, f4, f5, f6⟩ = 82) := Lib.hid (by simp [mayE, mayP, numF, QryP.kd, QryP.lo, QryP.tx, k3, k4, k5, k6, k7, k10])
              have HZ : Hid (r = 82) := Lib.hid (by rw [← HME0.out, HV.out]; rfl)
              clear HME0 HV k3 k4 k5 k6 k7 k10
              go_wp2_with fail
              go_ret
              rw [HZ.out]
              exact ⟨rfl, HB4.out⟩
      case rest =>
        obtain ⟨HBc, BSc, BQc, HPL⟩ := hcut
        have HR0 : Hid (partL l kd (above + 1) (ks.drop 0) = r) := Lib.hid (by rw [List.drop_zero]; exact HPL.out)
        have hk32 : ks.length ≤ 32 := by omega
        have hab5 : above + 1 ≤ 6 := by omega
        clear q0 q2 s0 HAE HR2 HR3 HPL BQ BS HB HO HFB HFI ELF
        go_wp2_with fail
        go_loopw [14] (fun i wr => ∃ k : Nat, k ≤ ks.length ∧ i = .int .i64 k ∧ Hid (partL l kd (above + 1) (ks.drop k) = r) ∧ Hid (Below w.heap.size w wr) ∧ Hid (Blk wr w.heap.size 24 #[.slice AF l.length capF]) ∧ Hid (Blk wr (w.heap.size + 1) 28 #[.int .i64 kd, .int .i64 oc, .string f, .string t, .string u, .slice A1 lo.length c1, .slice A2 hi.length c2, .int .i64 b, .int .i64 op, .slice A ks.length cA])) (fun i _ => ks.length - (intOf i).toNat)
        case atStart => exact ⟨0, by omega, rfl, HR0, HBc, BSc, BQc⟩
        case round =>
          clear HBc BSc BQc HR0
          obtain ⟨k, hkk, rfl, HK, HW, SW, BW⟩ := hrel
          have q9 : wr.cell? ⟨w.heap.size + 1, 9, none⟩ = some (.slice A ks.length cA) := BW.out.cell 9
          by_cases hlt : k < ks.length
          · have hlt2 : (k : Int) < (ks.length : Int) := by omega
            have hk0 : (0 : Int) ≤ (k : Int) := by omega
            obtain ⟨ad, us, rfl, hba, au, lu, cu⟩ := EL.out k hlt
            have HCU := Lib.hid (fun (W : World) (hW : Below w.heap.size w W) => cu.keep (w' := W) (fun p hp => hW.cell (by rw [hp, block_of_add]; exact hba)))
            have HAU := Lib.hid (fun (W : World) (hW : Below w.heap.size w W) => IH.out ks[k] (List.getElem_mem _) us kd W hW hab5 (atL_ltw au hW))
            have HD := Lib.hid ((partL_drop l kd (above + 1) ks k hlt).symm.trans HK.out)
            generalize hq : ks[k] = q at *
            obtain ⟨kd', oc', f', t', u', lo', hi', b', op', ks'⟩ := q
            obtain ⟨vl, vh, vk, rfl, hl2, hh, hkk2⟩ := at_cells au
            obtain ⟨B1, d1, rfl, _⟩ := at_ints hl2
            obtain ⟨B2, d2, rfl, _⟩ := at_ints hh
            obtain ⟨B3, d3, rfl⟩ := at_sl hkk2
            have hw1 : IntKind.i64.wrap ((above : Int) + 1) = (above : Int) + 1 := IntWalk.i64_in _ (by omega)
            have HPF : Hid (∀ W, Below w.heap.size w W → Calls Tryz.prog 20 #[.agg #[.slice AF l.length capF], .agg #[.int .i64 kd', .int .i64 oc', .string f', .string t', .string u', .slice B1 lo'.length d1, .slice B2 hi'.length d2, .int .i64 b', .int .i64 op', .slice B3 ks'.length d3], .int .i64 kd, .int .i64 ((above : Int) + 1)] W (Sch.IntB (partF l kd (above + 1) (.mk kd' oc' f' t' u' lo' hi' b' op' ks')) W)) := Lib.hid (fun W hW => HAU.out W hW)
            clear hq au hl2 hh hkk2 cu lu HAU
            generalize partF l kd (above + 1) (.mk kd' oc' f' t' u' lo' hi' b' op' ks') = pf at *
            have hzr : w.heap.size + 2 ≤ wr.heap.size := by have := BW.out.lt; omega
            go_upto_region 33 with fail
            have hd33 : Below wr.heap.size wr wr.drew := (Below.refl _ wr).drew
            clear q9
            refine wp_region_held_drew (S := fun V => Below wr.heap.size wr V) (by kernel_rfl) hd33 (fun hSp0 => ?_)
            refine' wpAnyH_take (i := 0) (v := _) (by simp only [List.getElem?_toArray, List.getElem?_cons_zero]; rfl) (by kernel_rfl) (by kernel_rfl) (by kernel_rfl) (by exact fun _ _ _ h => h) (Or.inl ⟨by rfl, ?hyp0⟩) hSp0 ?restp0
            case hyp0 => intro V hSw; have fq := (SW.out.below hSw SW.out.lt).cell 0; clear hSw; go_simp; try with_reducible rfl
            try simp only [Act.put, List.setIfInBounds_toArray, List.set_cons_zero, List.set_cons_succ]
            refine' wpAnyH_take (i := 1) (v := _) (by simp only [List.getElem?_toArray, List.getElem?_cons_succ, List.getElem?_cons_zero]; rfl) (by kernel_rfl) (by kernel_rfl) (by kernel_rfl) (by exact fun _ _ _ h => h) (Or.inl ⟨by rfl, ?hyp1⟩) hSp0 ?restp1
            case hyp1 => intro V hSw; clear hSw; go_simp; try with_reducible rfl
            try simp only [Act.put, List.setIfInBounds_toArray, List.set_cons_zero, List.set_cons_succ]
            refine' wpAnyH_take (i := 2) (v := _) (by simp only [List.getElem?_toArray, List.getElem?_cons_succ, List.getElem?_cons_zero]; rfl) (by kernel_rfl) (by kernel_rfl) (by kernel_rfl) (by exact fun _ _ _ h => h) (Or.inl ⟨by rfl, ?hyp2⟩) hSp0 ?restp2
            case hyp2 => intro V hSw; have fq := (BW.out.below hSw BW.out.lt).cell 9; clear hSw; go_simp; try with_reducible rfl
            try simp only [Act.put, List.setIfInBounds_toArray, List.set_cons_zero, List.set_cons_succ]
            refine' wpAnyH_take (i := 3) (v := _) (by simp only [List.getElem?_toArray, List.getElem?_cons_succ, List.getElem?_cons_zero]; rfl) (by kernel_rfl) (by kernel_rfl) (by kernel_rfl) (by exact fun _ _ _ h => h) (Or.inl ⟨by rfl, ?hyp3⟩) hSp0 ?restp3
            case hyp3 => intro V hSw; clear hSw; go_simp; try with_reducible rfl
            try simp only [Act.put, List.setIfInBounds_toArray, List.set_cons_zero, List.set_cons_succ]
            refine' wpAnyH_take (i := 4) (v := _) (by simp only [List.getElem?_toArray, List.getElem?_cons_succ, List.getElem?_cons_zero]; rfl) (by kernel_rfl) (by kernel_rfl) (by kernel_rfl) (by exact fun _ _ _ h => h) (Or.inl ⟨by rfl, ?hyp4⟩) hSp0 ?restp4
            case hyp4 => intro V hSw; clear hSw; go_simp; try with_reducible rfl
            try simp only [Act.put, List.setIfInBounds_toArray, List.set_cons_zero, List.set_cons_succ]
            refine' wpAnyH_take (i := 5) (v := _) (by simp only [List.getElem?_toArray, List.getElem?_cons_succ, List.getElem?_cons_zero]; rfl) (by kernel_rfl) (by kernel_rfl) (by kernel_rfl) (by exact fun _ _ _ h => h) (Or.inl ⟨by rfl, ?hyp5⟩) hSp0 ?restp5
            case hyp5 => intro V hSw; obtain ⟨a0, a1, a2, a3, a4, a5, a6, a7, a8, a9⟩ := ten (HCU.out V (HW.out.trans (hSw.mono HW.out.size))); clear hSw; go_simp; try with_reducible rfl
            try simp only [Act.put, List.setIfInBounds_toArray, List.set_cons_zero, List.set_cons_succ]
            refine' wpAnyH_take (i := 6) (v := _) (by simp only [List.getElem?_toArray, List.getElem?_cons_succ, List.getElem?_cons_zero]; rfl) (by kernel_rfl) (by kernel_rfl) (by kernel_rfl) (by exact fun _ _ _ h => h) (Or.inl ⟨by rfl, ?hyp6⟩) hSp0 ?restp6
            case hyp6 => intro V hSw; clear hSw; go_simp; try with_reducible rfl
            try simp only [Act.put, List.setIfInBounds_toArray, List.set_cons_zero, List.set_cons_succ]
            refine' wpAnyH_take (i := 7) (v := _) (by simp only [List.getElem?_toArray, List.getElem?_cons_succ, List.getElem?_cons_zero]; rfl) (by kernel_rfl) (by kernel_rfl) (by kernel_rfl) (by exact fun _ _ _ h => h) (Or.inl ⟨by rfl, ?hyp7⟩) hSp0 ?restp7
            case hyp7 => intro V hSw; have fq := (BW.out.below hSw BW.out.lt).cell 0; clear hSw; go_simp; try with_reducible rfl
            try simp only [Act.put, List.setIfInBounds_toArray, List.set_cons_zero, List.set_cons_succ]
            refine' wpAnyH_take (i := 8) (v := _) (by simp only [List.getElem?_toArray, List.getElem?_cons_succ, List.getElem?_cons_zero]; rfl) (by kernel_rfl) (by kernel_rfl) (by kernel_rfl) (by exact fun _ _ _ h => h) (Or.inl ⟨by rfl, ?hyp8⟩) hSp0 ?restp8
            case hyp8 => intro V hSw; clear hSw; go_simp; try with_reducible rfl
            try simp only [Act.put, List.setIfInBounds_toArray, List.set_cons_zero, List.set_cons_succ]
            refine' wpAnyH_take (i := 9) (v := _) (by simp only [List.getElem?_toArray, List.getElem?_cons_succ, List.getElem?_cons_zero]; rfl) (by kernel_rfl) (by kernel_rfl) (by kernel_rfl) (by exact fun _ _ _ h => h) (Or.inl ⟨by rfl, ?hyp9⟩) hSp0 ?restp9
            case hyp9 => intro V hSw; clear hSw; go_simp; try with_reducible rfl
            try simp only [Act.put, List.setIfInBounds_toArray, List.set_cons_zero, List.set_cons_succ]
            refine wpAnyH_ready (rs := [10]) (by kernel_rfl) (by simp) ?_
            refine' AllReadyH.cons (by simp only [List.getElem?_toArray, List.getElem?_cons_succ, List.getElem?_cons_zero]; rfl) (fun K hK => ?_) AllReadyH.nil
            go_simp
            refine (HPF.out _ (HW.out.trans (hSp0.mono HW.out.size))).mono ?_
            rintro e Vp1 ⟨rfl, q⟩
            have Bp1 := Lib.hid (Below.trans hSp0 (q.mono (hSp0).size))
            clear q
            go_simp
            refine hK.out _ _ Bp1.out (fun hSp1 => ?_)
            try simp only [Act.put, List.setIfInBounds_toArray, List.set_cons_zero, List.set_cons_succ]
            refine' wpAnyH_take (i := 11) (v := _) (by simp only [List.getElem?_toArray, List.getElem?_cons_succ, List.getElem?_cons_zero]; rfl) (by kernel_rfl) (by kernel_rfl) (by kernel_rfl) (by exact fun _ _ _ h => h) (Or.inl ⟨by rfl, ?hyp11⟩) hSp1 ?restp11
            case hyp11 => intro V hSw; clear hSw; go_simp; try with_reducible rfl
            try simp only [Act.put, List.setIfInBounds_toArray, List.set_cons_zero, List.set_cons_succ]
            refine wpAnyH_done (by kernel_rfl) ?_ _
            have HB3 := Lib.hid (HW.out.trans (Bp1.out.mono HW.out.size))
            have SW3 := Lib.hid (SW.out.below Bp1.out SW.out.lt)
            have BW3 := Lib.hid (BW.out.below Bp1.out BW.out.lt)
            clear hSp0 hSp1 hd33
            by_cases hp0 : pf = 0
            · subst hp0
              have HK2 : Hid (partL l kd (above + 1) (ks.drop (k + 1)) = r) := Lib.hid HD.out
              go_wp2_with fail
              go_roundw
              case rel => exact ⟨k + 1, by omega, by go_num, HK2, HB3, SW3, BW3⟩
              case measure => simp [intOf]; omega
            · have hpe : (pf != (0 : Int)) = true := by rw [bne_iff_ne]; exact hp0
              have HZ : Hid (r = pf) := Lib.hid (by rw [← HD.out, orE, if_neg hp0])
              clear hp0
              go_wp2_with fail
              go_ret
              rw [HZ.out]
              exact ⟨rfl, HB3.out⟩
          · obtain rfl : k = ks.length := by omega
            have HZ : Hid (r = 0) := Lib.hid (by rw [← HK.out, List.drop_length, partL])
            go_wp2_with fail
            go_ret
            rw [HZ.out]
            exact ⟨rfl, HW.out⟩
theorem refPart_any (us : Value) (l : List FT) (n : Nat) : ∀ (q : QT) (vs : List Value) (under : Int) (above : Nat) (w : World), q.sz ≤ n → above ≤ 6 → Ok q → T.AtL bare w (fun g => g < w.heap.size) (cells q) vs → T.At bare w (fun g => g < w.heap.size) (fieldsT l) us → l.length * 72 ≤ 140737488351232 →
    Calls Tryz.prog 20 #[.agg #[us], .agg vs.toArray, .int .i64 under, .int .i64 above] w (Sch.IntB (partF l under above q) w) := by
  induction n with
  | zero => intro q vs under above w hn; have := QT.sz_pos q; omega
  | succ n ih => exact refPart_step us l n ih
end Go.Proofs.YtinmiekbhoemjaaGreatDoor.Qck
