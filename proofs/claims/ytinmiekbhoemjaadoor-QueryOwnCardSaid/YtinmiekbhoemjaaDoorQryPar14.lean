/- Contract: the parser's query at weigh. Written by gen_query.py. -/
import Derived.Test.YtinmiekbhoemjaaDoorQryPar12
set_option linter.unusedVariables false
namespace Go.Proofs.YtinmiekbhoemjaaDoor.Qry
open Go.RowKit Words Tree QryP Kit Sch SchP Owned

theorem body_10 (qs : R → E (QT × R)) (r : R) : bodyS numT parT qs 10 r = match findK opF ((skipS r).takeWhile letB) 3 with
    | none => .error ((skipS r).length, 180)
    | some o => match wantS 44 ((skipS r).dropWhile letB) with
      | .error e => .error e
      | .ok r2 => match nameS r2 with
        | .error e => .error e
        | .ok (f, r3) => match wantS 44 r3 with
          | .error e => .error e
          | .ok r4 => match numS numT parT r4 with
            | .error e => .error e
            | .ok (z, r5) => match wantS 44 r5 with
              | .error e => .error e
              | .ok r6 => match qs r6 with
                | .error e => .error e
                | .ok (q, r7) => match wantS 41 r7 with
                  | .error e => .error e
                  | .ok r8 => .ok (.mk 10 0 f emp emp [z] [] 0 o [q], r8) := by
  unfold bodyS
  rw [if_neg (by decide), if_neg (by decide), if_pos rfl]
  unfold opS
  cases findK opF ((skipS r).takeWhile letB) 3 with
  | none => rfl
  | some o =>
    dsimp only [bind, Except.bind]
    cases wantS 44 ((skipS r).dropWhile letB) with
    | error e => rfl
    | ok r2 =>
      dsimp only
      cases nameS r2 with
      | error e => rfl
      | ok p =>
        obtain ⟨f, r3⟩ := p
        dsimp only
        cases wantS 44 r3 with
        | error e => rfl
        | ok r4 =>
          dsimp only
          cases numS numT parT r4 with
          | error e => rfl
          | ok p =>
            obtain ⟨z, r5⟩ := p
            dsimp only
            cases wantS 44 r5 with
            | error e => rfl
            | ok r6 =>
              dsimp only
              cases qs r6 with
              | error e => rfl
              | ok p =>
                obtain ⟨q, r7⟩ := p
                dsimp only
                cases wantS 41 r7 with
                | error e => rfl
                | ok r8 => rfl
def opV (tk : List UInt8) (i : Nat) : Int := match findK opF tk i with
  | none => 0
  | some o => o
theorem opF_inj (a b : Int) (ha : 1 ≤ a ∧ a ≤ 3) (hb : 1 ≤ b ∧ b ≤ 3) (h : opF a = opF b) : a = b := by
  have h1 : a = 1 ∨ a = 2 ∨ a = 3 := by omega
  have h2 : b = 1 ∨ b = 2 ∨ b = 3 := by omega
  rcases h1 with rfl | rfl | rfl <;> rcases h2 with rfl | rfl | rfl <;> first | rfl | (exact absurd h (by decide))
theorem opV_hit {tk : List UInt8} {i : Nat} (hi : i < 3) (h : opF ((i : Int) + 1) = tk) : opV tk (i + 1) = (i : Int) + 1 := by
  have hn : findK opF tk i = none := by
    cases hf : findK opF tk i with
    | none => rfl
    | some o =>
      have := find_in hf
      have := opF_inj o ((i : Int) + 1) (by omega) (by omega) (this.2.2.trans h.symm)
      omega
  unfold opV
  rw [find_hit hn h]
  rfl
theorem opV_miss {tk : List UInt8} {i : Nat} (h : opF ((i : Int) + 1) ≠ tk) : opV tk (i + 1) = opV tk i := by
  unfold opV
  cases h0 : findK opF tk i with
  | none => rw [find_miss h0 h]
  | some o => rw [find_up h0 (Nat.le_succ i)]
set_option maxRecDepth 100000 in
set_option maxHeartbeats 16000000 in
theorem query_10 (B : Nat) (s : ByteArray) (hs : s.size ≤ 4096) (above : Nat) (ha : above ≤ 6) (n : Int) (r1 : R) (gp k : Nat) (w : World) (h : Pa s gp k w) (hB : B ≤ gp) (hT : PT B w) (hK : kindS (6 - above) (rem s k) = .ok (n, r1)) (ha5 : above ≤ 5) (hQ : QueryC B s (above + 1)) (hn : n = 10) :
    Calls Tryd.prog 32 #[.pointer (some ⟨gp, 0, none⟩), .int .i64 above] w (Out s gp k w (bodyW (5 - above) n r1) (QV w.heap.size)) := by
  subst hn
  obtain ⟨x, hx⟩ : ∃ x, bodyW (5 - above) 10 r1 = x := ⟨_, rfl⟩
  rw [hx]
  have HX : Hid (x = match wantS 40 r1 with | .error e => .error e | .ok r2 => match findK opF ((skipS r2).takeWhile letB) 3 with
      | none => .error ((skipS r2).length, 180)
      | some o => match wantS 44 ((skipS r2).dropWhile letB) with
        | .error e => .error e
        | .ok r2 => match nameS r2 with
          | .error e => .error e
          | .ok (f, r3) => match wantS 44 r3 with
            | .error e => .error e
            | .ok r4 => match numS numT parT r4 with
              | .error e => .error e
              | .ok (z, r5) => match wantS 44 r5 with
                | .error e => .error e
                | .ok r6 => match queryS numT parT (6 - (above + 1)) r6 with
                  | .error e => .error e
                  | .ok (q, r7) => match wantS 41 r7 with
                    | .error e => .error e
                    | .ok r8 => .ok (.mk 10 0 f emp emp [z] [] 0 o [q], r8)) := Lib.hid (by rw [← hx, show 6 - (above + 1) = 5 - above by omega]; unfold bodyW; cases wantS 40 r1 with
      | error e => rfl
      | ok r2 => exact body_10 _ _)
  clear hx
  have HQ := Lib.hid hQ
  clear hQ
  have HT := Lib.hid hT
  have hgp : gp < w.heap.size := h.blk.lt
  have hsz1 : (w.alloc (.cells #[.pointer (some ⟨gp, 0, none⟩)] 53)).heap.size = w.heap.size + 1 := by simp
  have hsz2 : ((w.alloc (.cells #[.pointer (some ⟨gp, 0, none⟩)] 53)).alloc (.cells #[.int .i64 above] 3)).heap.size = w.heap.size + 2 := by simp
  have hA : Below w.heap.size w (((w.alloc (.cells #[.pointer (some ⟨gp, 0, none⟩)] 53)).alloc (.cells #[.int .i64 above] 3)).alloc (.cells zeroQ 25)) := (((Below.refl _ w).alloc (Nat.le_refl _) _).alloc (by first | (simp; done) | (simp; omega)) _).alloc (by first | (simp; done) | (simp; omega)) _
  have HP := Lib.hid (h.keep hA)
  have hbp : Blk (((w.alloc (.cells #[.pointer (some ⟨gp, 0, none⟩)] 53)).alloc (.cells #[.int .i64 above] 3)).alloc (.cells zeroQ 25)) w.heap.size 53 #[.pointer (some ⟨gp, 0, none⟩)] := ((Blk.new w _ _).alloc _).alloc _
  have hba : Blk (((w.alloc (.cells #[.pointer (some ⟨gp, 0, none⟩)] 53)).alloc (.cells #[.int .i64 above] 3)).alloc (.cells zeroQ 25)) (w.heap.size + 1) 3 #[.int .i64 above] := by rw [← hsz1]; exact (Blk.new _ _ _).alloc _
  have hbr : Blk (((w.alloc (.cells #[.pointer (some ⟨gp, 0, none⟩)] 53)).alloc (.cells #[.int .i64 above] 3)).alloc (.cells zeroQ 25)) (w.heap.size + 2) 25 zeroQ := by rw [← hsz2]; exact Blk.new _ _ _
  have HBP := Lib.hid hbp; have HBA := Lib.hid hba; have HBR := Lib.hid hbr
  have HG := Lib.hid (only_of_below hA (some gp))
  have HKD := Lib.hid (kind_any above ha s gp k _ HP.out hs)
  rw [hK] at HKD
  clear h hT hA hbp hba hbr hsz1 hsz2 hK
  unfold zeroQ at HBR HBA HBP HG HKD HP
  go_enter Tryd.func32, Tryd.ntmps32
  go_wp2_with fail
  refine HKD.out.mono ?_
  intro e w4 ho
  obtain ⟨v, rfl, ⟨rfl, hn1, hn2⟩, hg, j1, hkj, hpa, hr1⟩ := ho
  subst hr1
  have hbp4 := HBP.out.grown hg (fun e => by injection e with e; omega)
  have hba4 := HBA.out.grown hg (fun e => by injection e with e; omega)
  have hbr4 := HBR.out.grown hg (fun e => by injection e with e; omega)
  have hg4 := grown_trans' HG.out hg
  have HF := Lib.hid (Fr.first (k := 10) hpa hg4 hbp4 hba4 hbr4 hgp)
  have HT5 := Lib.hid ((HT.out.grown hg4 hB).next ((Below.refl B w4).alloc (HT.out.grown hg4 hB).1 (.cells #[.int .i64 10, .int .i64 0, .string emp, .string emp, .string emp, .slice none 0 0, .slice none 0 0, .int .i64 0, .int .i64 0, .slice none 0 0] 25)))
  clear hbp4 hba4 hbr4 hg4 hg hpa HBP HBA HBR HG HKD HP HT
  unfold emp at HF HT5
  go_upto_region 2 with fail
  generalize w4.alloc (.cells #[.int .i64 10, .int .i64 0, .string ⟨#[]⟩, .string ⟨#[]⟩, .string ⟨#[]⟩, .slice none 0 0, .slice none 0 0, .int .i64 0, .int .i64 0, .slice none 0 0] 25) = W at *
  generalize w4.heap.size = gq at *
  have hbq := HF.out.bq.lt
  have H1 := Lib.hid (want_any 40 s gp j1 W HF.out.pa hs)
  have q0 : W.cell? ⟨gq, 0, none⟩ = some (.int .i64 10) := HF.out.bq.cell 0
  have cp : W.cell? ⟨w.heap.size, 0, none⟩ = some (.pointer (some ⟨gp, 0, none⟩)) := HF.out.bp.cell 0
  go_wp2_with fail
  refine H1.out.mono ?_
  clear H1
  obtain ⟨y1, hy1⟩ : ∃ y, wantS 40 (rem s j1) = y := ⟨_, rfl⟩
  rw [hy1] at HX ⊢
  clear hy1
  match y1 with
  | .error (p, c) =>
    intro e w9 ho
    obtain ⟨rfl, hg⟩ := ho
    refine ⟨rfl, ?_⟩
    rw [HX.out]
    exact ⟨rfl, grown_trans' HF.out.grown hg⟩
  | .ok r2 =>
    intro e w6 ho
    obtain ⟨rfl, hg, j2, hj2, hpa, hr⟩ := ho
    subst hr
    have HF6 := Lib.hid (HF.out.same hg hpa)
    have HT6 := Lib.hid (HT5.out.grown hg hB)
    clear hg hpa q0 cp
    have q0 : w6.cell? ⟨gq, 0, none⟩ = some (.int .i64 10) := HF6.out.bq.cell 0
    have cp : w6.cell? ⟨w.heap.size, 0, none⟩ = some (.pointer (some ⟨gp, 0, none⟩)) := HF6.out.bp.cell 0
    have HR := Lib.hid (run_any s gp j2 w6 HF6.out.pa hs)
    try dsimp only at HX
    generalize (skipS (rem s j2)).takeWhile letB = tk at HR HX
    generalize (skipS (rem s j2)).dropWhile letB = dk at HR HX
    generalize (skipS (rem s j2)).length = nn at HR HX
    go_wp2_with fail
    refine HR.out.mono ?_
    clear HR
    rintro e w7 ⟨rfl, hg, j3, hj3, hpa, hr⟩
    subst hr
    have HF7 := Lib.hid (HF6.out.same hg hpa)
    have HT7 := Lib.hid (HT6.out.grown hg hB)
    clear hg hpa q0 cp
    go_wp2_with fail
    go_loopw [13] (fun v wr => ∃ i : Nat, i ≤ 3 ∧ v = .int .i64 ((i : Int) + 1) ∧ Hid (Fr s gp w gq above j3 (.mk 10 0 ⟨#[]⟩ ⟨#[]⟩ ⟨#[]⟩ [] [] 0 (opV tk i) []) [.int .i64 10, .int .i64 0, .string ⟨#[]⟩, .string ⟨#[]⟩, .string ⟨#[]⟩, .slice none 0 0, .slice none 0 0, .int .i64 0, .int .i64 (opV tk i), .slice none 0 0] [] wr) ∧ Hid (PT B wr)) (fun v _ => 5 - (intOf v).toNat)
    case atStart => exact ⟨0, by omega, rfl, HF7, HT7⟩
    case round =>
      clear HF7 HT7
      obtain ⟨i, hi, rfl, HF8, HT8⟩ := hrel
      by_cases hlt : i < 3
      · have hlt2 : ((i : Int) + 1) ≤ 3 := by omega
        have HW := Lib.hid (fun W => op_any ((i : Int) + 1) W (by omega))
        by_cases hw : opF ((i : Int) + 1) = tk
        · have de : ((str (opF ((i : Int) + 1))).toList == (QryP.bytes tk).toList) = true := by rw [str_eq]; exact decide_eq_true hw
          have HV := Lib.hid (opV_hit hlt hw)
          clear hw
          generalize str (opF ((i : Int) + 1)) = sw at *
          have q8 : wr.cell? ⟨gq, 8, none⟩ = some (.int .i64 (opV tk i)) := HF8.out.bq.cell 8
          have z8 : wr.frozen? ⟨gq, 8, none⟩ = false := HF8.out.bq.frozen 8
          have HF9 := Lib.hid (HF8.out.set 8 (.int .i64 ((i : Int) + 1)) (HF8.out.oq.oper ((i : Int) + 1)) HF8.out.nd)
          have HT9 := Lib.hid (HT8.out.next (show Below B wr (wr.setCell ⟨gq, 8, none⟩ (.int .i64 ((i : Int) + 1))) from (Below.refl B wr).setCell (by show B ≤ gq; have := HF8.out.hq; omega) _))
          go_wp2_with fail
          refine (HW.out _).mono ?_
          rintro e w2 ⟨rfl, rfl⟩
          go_wp2_with fail
          go_roundw
          case rel => exact ⟨i + 1, by omega, by go_num, by rw [HV.out]; exact HF9, HT9⟩
          case measure => simp [intOf]; omega
        · have de : ((str (opF ((i : Int) + 1))).toList == (QryP.bytes tk).toList) = false := by rw [str_eq]; exact decide_eq_false hw
          have HV := Lib.hid (opV_miss hw)
          clear hw
          generalize str (opF ((i : Int) + 1)) = sw at *
          go_wp2_with fail
          refine (HW.out _).mono ?_
          rintro e w2 ⟨rfl, rfl⟩
          go_wp2_with fail
          go_roundw
          case rel => exact ⟨i + 1, by omega, by go_num, by rw [HV.out]; exact HF8, HT8⟩
          case measure => simp [intOf]; omega
      · obtain rfl : i = 3 := by omega
        unfold opV at HF8
        try dsimp only at HX
        obtain ⟨fk, hfk⟩ : ∃ y, findK opF tk 3 = y := ⟨_, rfl⟩
        rw [hfk] at HX HF8
        cases fk with
        | none =>
          have HX2 : Hid (x = .error (nn, 180)) := Lib.hid HX.out
          have q8 : wr.cell? ⟨gq, 8, none⟩ = some (.int .i64 0) := HF8.out.bq.cell 8
          have HWR := Lib.hid (wrong_any ((s.size - nn : Nat) : Int) wr)
          clear hfk HX
          go_wp2_with fail
          refine HWR.out.mono ?_
          rintro e w9 ⟨rfl, rfl⟩
          refine ⟨rfl, ?_⟩
          rw [HX2.out]
          exact ⟨rfl, HF8.out.grown⟩
        | some o =>
          have ho3 := find_in hfk
          have d0 : (o == 0) = false := by rw [beq_eq_false_iff_ne]; omega
          dsimp only at HX HF8
          have q8 : wr.cell? ⟨gq, 8, none⟩ = some (.int .i64 o) := HF8.out.bq.cell 8
          have cp : wr.cell? ⟨w.heap.size, 0, none⟩ = some (.pointer (some ⟨gp, 0, none⟩)) := HF8.out.bp.cell 0
          have H2 := Lib.hid (comma_any w.heap.size s gp j3 wr HF8.out.pa hs cp)
          clear hfk ho3
          go_wp2_with fail
          refine H2.out.mono ?_
          clear H2
          obtain ⟨y2, hy2⟩ : ∃ y, wantS 44 (rem s j3) = y := ⟨_, rfl⟩
          rw [hy2] at HX ⊢
          clear hy2
          match y2 with
          | .error (p, c) =>
            intro e w9 ho
            obtain ⟨rfl, hg⟩ := ho
            refine ⟨rfl, ?_⟩
            rw [HX.out]
            exact ⟨rfl, grown_trans' HF8.out.grown hg⟩
          | .ok r3 =>
            intro e w9 ho
            obtain ⟨rfl, hg, j4, hj4, hpa, hr⟩ := ho
            subst hr
            have HF9 := Lib.hid (HF8.out.same hg hpa)
            have HT9 := Lib.hid (HT8.out.grown hg hB)
            clear hg hpa cp q8
            have cp : w9.cell? ⟨w.heap.size, 0, none⟩ = some (.pointer (some ⟨gp, 0, none⟩)) := HF9.out.bp.cell 0
            have H3 := Lib.hid (pname_any s gp j4 w9 HF9.out.pa hs)
            go_wp2_with fail
            refine H3.out.mono ?_
            clear H3
            obtain ⟨y3, hy3⟩ : ∃ y, nameS (rem s j4) = y := ⟨_, rfl⟩
            rw [hy3] at HX ⊢
            clear hy3
            match y3 with
            | .error (p, c) =>
              intro e w9 ho
              obtain ⟨rfl, hg⟩ := ho
              refine ⟨rfl, ?_⟩
              rw [HX.out]
              exact ⟨rfl, grown_trans' HF9.out.grown hg⟩
            | .ok (f, r4) =>
              intro e w10 ho
              obtain ⟨v, rfl, rfl, hg, j5, hj5, hpa, hr⟩ := ho
              subst hr
              have HF10 := Lib.hid (HF9.out.same hg hpa)
              have HT10 := Lib.hid (HT9.out.grown hg hB)
              have q2 : w10.cell? ⟨gq, 2, none⟩ = some (.string ⟨#[]⟩) := HF10.out.bq.cell 2
              have z2 : w10.frozen? ⟨gq, 2, none⟩ = false := HF10.out.bq.frozen 2
              have HF11 := Lib.hid (HF10.out.set 2 (.string f) (HF10.out.oq.field f) HF10.out.nd)
              have HT11 := Lib.hid (HT10.out.next (show Below B w10 (w10.setCell ⟨gq, 2, none⟩ (.string f)) from (Below.refl B w10).setCell (by show B ≤ gq; have := HF10.out.hq; omega) _))
              clear hg hpa cp
              go_upto_region 45 with fail
              generalize w10.setCell ⟨gq, 2, none⟩ (.string f) = w11 at *
              clear q2 z2
              have cp : w11.cell? ⟨w.heap.size, 0, none⟩ = some (.pointer (some ⟨gp, 0, none⟩)) := HF11.out.bp.cell 0
              have H4 := Lib.hid (comma_any w.heap.size s gp j5 w11 HF11.out.pa hs cp)
              go_wp2_with fail
              refine H4.out.mono ?_
              clear H4
              obtain ⟨y4, hy4⟩ : ∃ y, wantS 44 (rem s j5) = y := ⟨_, rfl⟩
              rw [hy4] at HX ⊢
              clear hy4
              match y4 with
              | .error (p, c) =>
                intro e w9 ho
                obtain ⟨rfl, hg⟩ := ho
                refine ⟨rfl, ?_⟩
                rw [HX.out]
                exact ⟨rfl, grown_trans' HF11.out.grown hg⟩
              | .ok r5 =>
                intro e w12 ho
                obtain ⟨rfl, hg, j6, hj6, hpa, hr⟩ := ho
                subst hr
                have HF12 := Lib.hid (HF11.out.same hg hpa)
                have HT12 := Lib.hid (HT11.out.grown hg hB)
                clear hg hpa cp
                have cp : w12.cell? ⟨w.heap.size, 0, none⟩ = some (.pointer (some ⟨gp, 0, none⟩)) := HF12.out.bp.cell 0
                have H5 := Lib.hid (number_any B s gp j6 w12 HF12.out.pa hs hB HT12.out)
                go_wp2_with fail
                refine H5.out.mono ?_
                clear H5
                obtain ⟨y5, hy5⟩ : ∃ y, numS numT parT (rem s j6) = y := ⟨_, rfl⟩
                rw [hy5] at HX ⊢
                clear hy5
                match y5 with
                | .error (p, c) =>
                  intro e w9 ho
                  obtain ⟨rfl, hg⟩ := ho
                  refine ⟨rfl, ?_⟩
                  rw [HX.out]
                  exact ⟨rfl, grown_trans' HF12.out.grown hg⟩
                | .ok (zz, r6) =>
                  intro e w13 ho
                  obtain ⟨v, rfl, ⟨rfl, hz64⟩, hg, j7, hj7, hpa, hr⟩ := ho
                  subst hr
                  have HF13 := Lib.hid (HF12.out.same hg hpa)
                  have HT13 := Lib.hid (HT12.out.grown hg hB)
                  clear hg hpa cp hz64
                  have hA := (Below.refl w13.heap.size w13).alloc (Nat.le_refl _) (.cells #[.int .i64 zz] 2)
                  have HF14 := Lib.hid (HF13.out.same (only_of_below hA (some gp)) (HF13.out.pa.keep hA))
                  have HT14 := Lib.hid (HT13.out.next (hA.mono HT13.out.1))
                  have hrow : RowI (w13.alloc (.cells #[.int .i64 zz] 2)) (gq + 1) (.slice (some ⟨w13.heap.size, 0, none⟩) 1 1) [zz] := ⟨rfl, .inr ⟨w13.heap.size, 1, #[.int .i64 zz], rfl, HF13.out.bq.lt, Blk.new w13 _ _, Nat.le_refl _, by unfold maxLen; omega, rfl, rfl⟩⟩
                  obtain ⟨bs2, hoq2, hnd2⟩ := HF14.out.oq.low HF14.out.nd hrow (fun g hg hm => by cases hm)
                  have HF15 := Lib.hid (HF14.out.set 5 _ hoq2 hnd2)
                  have HT15 := Lib.hid (HT14.out.next (show Below B _ ((w13.alloc (.cells #[.int .i64 zz] 2)).setCell ⟨gq, 5, none⟩ (.slice (some ⟨w13.heap.size, 0, none⟩) 1 1)) from (Below.refl B _).setCell (by show B ≤ gq; have := HF13.out.hq; omega) _))
                  have q5 : (w13.alloc (.cells #[.int .i64 zz] 2)).cell? ⟨gq, 5, none⟩ = some (.slice none 0 0) := HF14.out.bq.cell 5
                  have z5 : (w13.alloc (.cells #[.int .i64 zz] 2)).frozen? ⟨gq, 5, none⟩ = false := HF14.out.bq.frozen 5
                  have hlt13 := HF13.out.bq.lt
                  have hne13 : gq ≠ w13.heap.size := by omega
                  have q5' : w13.cell? ⟨gq, 5, none⟩ = some (.slice none 0 0) := HF13.out.bq.cell 5
                  have z5' : w13.frozen? ⟨gq, 5, none⟩ = false := HF13.out.bq.frozen 5
                  clear hA hrow hoq2 hnd2
                  rw [World.setCell_alloc_past _ _ _ _ hlt13] at HF15 HT15
                  go_upto_region 47 with fail
                  generalize (w13.setCell ⟨gq, 5, none⟩ (.slice (some ⟨w13.heap.size, 0, none⟩) 1 1)).alloc (.cells #[.int .i64 zz] 2) = w15 at *
                  clear q5 z5 q5' z5'
                  generalize hsl : (List.set _ 5 (Value.slice (some ⟨w13.heap.size, 0, none⟩) 1 1)) = us15 at HF15
                  have cp : w15.cell? ⟨w.heap.size, 0, none⟩ = some (.pointer (some ⟨gp, 0, none⟩)) := HF15.out.bp.cell 0
                  have H6 := Lib.hid (comma_any w.heap.size s gp j7 w15 HF15.out.pa hs cp)
                  go_wp2_with fail
                  refine H6.out.mono ?_
                  clear H6
                  obtain ⟨y6, hy6⟩ : ∃ y, wantS 44 (rem s j7) = y := ⟨_, rfl⟩
                  rw [hy6] at HX ⊢
                  clear hy6
                  match y6 with
                  | .error (p, c) =>
                    intro e w9 ho
                    obtain ⟨rfl, hg⟩ := ho
                    refine ⟨rfl, ?_⟩
                    rw [HX.out]
                    exact ⟨rfl, grown_trans' HF15.out.grown hg⟩
                  | .ok r7 =>
                    intro e w16 ho
                    obtain ⟨rfl, hg, j8, hj8, hpa, hr⟩ := ho
                    subst hr
                    have HF16 := Lib.hid (HF15.out.same hg hpa)
                    have HT16 := Lib.hid (HT15.out.grown hg hB)
                    clear hg hpa cp
                    have H7 := Lib.hid (kid_any B s gp w gq above j8 _ _ _ w16 HF16.out hs hB HT16.out ha5 (Nat.zero_le 4096) HQ.out)
                    go_wp2_with fail
                    refine H7.out.mono ?_
                    clear H7
                    obtain ⟨y7, hy7⟩ : ∃ y, queryS numT parT (6 - (above + 1)) (rem s j8) = y := ⟨_, rfl⟩
                    rw [hy7] at HX ⊢
                    clear hy7
                    match y7 with
                    | .error (p, c) =>
                      intro e w99 ho
                      obtain ⟨rfl, hg⟩ := ho
                      refine ⟨rfl, ?_⟩
                      rw [HX.out]
                      exact ⟨rfl, hg⟩
                    | .ok (q, r9) =>
                      intro e w17 ho
                      obtain ⟨rfl, j9, us6, bs6, hj9, hr, hf⟩ := ho
                      subst hr
                      generalize hqa : addK (QT.mk 10 0 f ⟨#[]⟩ ⟨#[]⟩ [zz] [] 0 o []) q = qa at hf
                      have HE : Hid (QT.mk 10 0 f emp emp [zz] [] 0 o [q] = qa) := Lib.hid hqa
                      clear hqa
                      have HF17 := Lib.hid hf
                      clear hf
                      have cp : w17.cell? ⟨w.heap.size, 0, none⟩ = some (.pointer (some ⟨gp, 0, none⟩)) := HF17.out.bp.cell 0
                      have H8 := Lib.hid (want_any 41 s gp j9 w17 HF17.out.pa hs)
                      go_wp2_with fail
                      refine H8.out.mono ?_
                      clear H8
                      obtain ⟨y8, hy8⟩ : ∃ y, wantS 41 (rem s j9) = y := ⟨_, rfl⟩
                      rw [hy8] at HX ⊢
                      clear hy8
                      match y8 with
                      | .error (p, c) =>
                        intro e w9 ho
                        obtain ⟨rfl, hg⟩ := ho
                        refine ⟨rfl, ?_⟩
                        rw [HX.out]
                        exact ⟨rfl, grown_trans' HF17.out.grown hg⟩
                      | .ok r8 =>
                        intro e w18 ho
                        obtain ⟨rfl, hg, j10, hj10, hpa, hr⟩ := ho
                        subst hr
                        have HF18 := Lib.hid (HF17.out.same hg hpa)
                        clear hg hpa cp
                        obtain ⟨kq, oq, fq, tq, uq, loq, hiq, bq, opq, ksq⟩ := qa
                        obtain ⟨cl, ch, ck, al, ah, ak, hus⟩ := HF18.out.shape
                        subst hus
                        have hq := HF18.out.hq
                        have hne : gq ≠ w.heap.size + 1 + 1 := by omega
                        have hkj10 : k ≤ j10 := by omega
                        have q0 : w18.cell? ⟨gq, 0, none⟩ = some (.int .i64 kq) := HF18.out.bq.cell 0
                        have q1 : w18.cell? ⟨gq, 1, none⟩ = some (.int .i64 oq) := HF18.out.bq.cell 1
                        have q2 : w18.cell? ⟨gq, 2, none⟩ = some (.string fq) := HF18.out.bq.cell 2
                        have q3 : w18.cell? ⟨gq, 3, none⟩ = some (.string tq) := HF18.out.bq.cell 3
                        have q4 : w18.cell? ⟨gq, 4, none⟩ = some (.string uq) := HF18.out.bq.cell 4
                        have q5 : w18.cell? ⟨gq, 5, none⟩ = some (.slice al loq.length cl) := HF18.out.bq.cell 5
                        have q6 : w18.cell? ⟨gq, 6, none⟩ = some (.slice ah hiq.length ch) := HF18.out.bq.cell 6
                        have q7 : w18.cell? ⟨gq, 7, none⟩ = some (.int .i64 bq) := HF18.out.bq.cell 7
                        have q8 : w18.cell? ⟨gq, 8, none⟩ = some (.int .i64 opq) := HF18.out.bq.cell 8
                        have q9 : w18.cell? ⟨gq, 9, none⟩ = some (.slice ak ksq.length ck) := HF18.out.bq.cell 9
                        have r0 : w18.cell? ⟨w.heap.size + 1 + 1, 0, none⟩ = some (.int .i64 0) := HF18.out.br.cell 0
                        have r1 : w18.cell? ⟨w.heap.size + 1 + 1, 1, none⟩ = some (.int .i64 0) := HF18.out.br.cell 1
                        have r2 : w18.cell? ⟨w.heap.size + 1 + 1, 2, none⟩ = some (.string ⟨#[]⟩) := HF18.out.br.cell 2
                        have r3 : w18.cell? ⟨w.heap.size + 1 + 1, 3, none⟩ = some (.string ⟨#[]⟩) := HF18.out.br.cell 3
                        have r4 : w18.cell? ⟨w.heap.size + 1 + 1, 4, none⟩ = some (.string ⟨#[]⟩) := HF18.out.br.cell 4
                        have r5 : w18.cell? ⟨w.heap.size + 1 + 1, 5, none⟩ = some (.slice none 0 0) := HF18.out.br.cell 5
                        have r6 : w18.cell? ⟨w.heap.size + 1 + 1, 6, none⟩ = some (.slice none 0 0) := HF18.out.br.cell 6
                        have r7 : w18.cell? ⟨w.heap.size + 1 + 1, 7, none⟩ = some (.int .i64 0) := HF18.out.br.cell 7
                        have r8 : w18.cell? ⟨w.heap.size + 1 + 1, 8, none⟩ = some (.int .i64 0) := HF18.out.br.cell 8
                        have r9 : w18.cell? ⟨w.heap.size + 1 + 1, 9, none⟩ = some (.slice none 0 0) := HF18.out.br.cell 9
                        have z0 : w18.frozen? ⟨w.heap.size + 1 + 1, 0, none⟩ = false := HF18.out.br.frozen 0
                        have z1 : w18.frozen? ⟨w.heap.size + 1 + 1, 1, none⟩ = false := HF18.out.br.frozen 1
                        have z2 : w18.frozen? ⟨w.heap.size + 1 + 1, 2, none⟩ = false := HF18.out.br.frozen 2
                        have z3 : w18.frozen? ⟨w.heap.size + 1 + 1, 3, none⟩ = false := HF18.out.br.frozen 3
                        have z4 : w18.frozen? ⟨w.heap.size + 1 + 1, 4, none⟩ = false := HF18.out.br.frozen 4
                        have z5 : w18.frozen? ⟨w.heap.size + 1 + 1, 5, none⟩ = false := HF18.out.br.frozen 5
                        have z6 : w18.frozen? ⟨w.heap.size + 1 + 1, 6, none⟩ = false := HF18.out.br.frozen 6
                        have z7 : w18.frozen? ⟨w.heap.size + 1 + 1, 7, none⟩ = false := HF18.out.br.frozen 7
                        have z8 : w18.frozen? ⟨w.heap.size + 1 + 1, 8, none⟩ = false := HF18.out.br.frozen 8
                        have z9 : w18.frozen? ⟨w.heap.size + 1 + 1, 9, none⟩ = false := HF18.out.br.frozen 9
                        have HBK := Lib.hid (set10_blk (W := w18) (g := w.heap.size + 1 + 1) HF18.out.br (.int .i64 kq) (.int .i64 oq) (.string fq) (.string tq) (.string uq) (.slice al loq.length cl) (.slice ah hiq.length ch) (.int .i64 bq) (.int .i64 opq) (.slice ak ksq.length ck))
                        have HGR := Lib.hid (set10_grown w18 (w.heap.size + 1 + 1) (.int .i64 kq) (.int .i64 oq) (.string fq) (.string tq) (.string uq) (.slice al loq.length cl) (.slice ah hiq.length ch) (.int .i64 bq) (.int .i64 opq) (.slice ak ksq.length ck))
                        go_wp2_with fail
                        generalize ((((((((((w18.setCell ⟨w.heap.size + 1 + 1, 0, none⟩ (.int .i64 kq)).setCell ⟨w.heap.size + 1 + 1, 1, none⟩ (.int .i64 oq)).setCell ⟨w.heap.size + 1 + 1, 2, none⟩ (.string fq)).setCell ⟨w.heap.size + 1 + 1, 3, none⟩ (.string tq)).setCell ⟨w.heap.size + 1 + 1, 4, none⟩ (.string uq)).setCell ⟨w.heap.size + 1 + 1, 5, none⟩ (.slice al loq.length cl)).setCell ⟨w.heap.size + 1 + 1, 6, none⟩ (.slice ah hiq.length ch)).setCell ⟨w.heap.size + 1 + 1, 7, none⟩ (.int .i64 bq)).setCell ⟨w.heap.size + 1 + 1, 8, none⟩ (.int .i64 opq)).setCell ⟨w.heap.size + 1 + 1, 9, none⟩ (.slice ak ksq.length ck)) = W2 at *
                        clear q0 r0 z0 q1 r1 z1 q2 r2 z2 q3 r3 z3 q4 r4 z4 q5 r5 z5 q6 r6 z6 q7 r7 z7 q8 r8 z8 q9 r9 z9
                        try simp only [Exit.inBlock, Exit.then]
                        refine ⟨rfl, _, results_cell_row rfl _ W2 (w.heap.size + 1 + 1) 25 _ (0, 0) _ rfl HBK.out Tryd.underlying25 rfl (by kernel_rfl), ?_⟩
                        obtain ⟨_, hqv, hat⟩ := HF18.out.done HGR.out hkj10
                        rw [HX.out, HE.out]
                        exact ⟨_, rfl, hqv, hat⟩
end Go.Proofs.YtinmiekbhoemjaaDoor.Qry
