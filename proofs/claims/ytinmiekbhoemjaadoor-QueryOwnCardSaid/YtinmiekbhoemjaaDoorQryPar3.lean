/- Contracts: the parser's name, number. -/
import Derived.Test.YtinmiekbhoemjaaDoorQryPar2
import Derived.Test.YtinmiekbhoemjaaDoorPack17
import Derived.Test.YtinmiekbhoemjaaDoorPack4
set_option linter.unusedVariables false
namespace Go.Proofs.YtinmiekbhoemjaaDoor.Qry
open Go.RowKit Words Tree QryP Kit Sch SchP Owned

set_option maxRecDepth 100000 in
set_option maxHeartbeats 4000000 in
theorem pname_any (s : ByteArray) (gp k : Nat) (w : World) (h : Pa s gp k w) (hs : s.size ≤ 4096) : Calls Tryd.prog 70 #[.pointer (some ⟨gp, 0, none⟩)] w (Out s gp k w (nameS (rem s k)) fun f v _ => v = .string f) := by
  have HRUN := Lib.hid (run_any s gp k w h hs)
  have hlen : (skipS (rem s k)).length ≤ s.size := Nat.le_trans (skip_le _) (by rw [rem_len]; omega)
  have hln : ((skipS (rem s k)).takeWhile letB).length ≤ 4096 := by have := take_drop letB (skipS (rem s k)); omega
  clear h
  obtain ⟨x, hx⟩ : ∃ x, nameS (rem s k) = x := ⟨_, rfl⟩
  rw [hx]
  have HX : Hid (x = if nameB (QryP.bytes ((skipS (rem s k)).takeWhile letB)) then .ok (QryP.bytes ((skipS (rem s k)).takeWhile letB), (skipS (rem s k)).dropWhile letB) else .error ((skipS (rem s k)).length, 180)) := Lib.hid (by rw [← hx]; rfl)
  clear hx
  generalize (skipS (rem s k)).takeWhile letB = tk at *
  generalize (skipS (rem s k)).dropWhile letB = dk at *
  generalize (skipS (rem s k)).length = n at *
  have HNM := Lib.hid (fun W => name_any (QryP.bytes tk) W (by rw [bytes_size]; omega))
  generalize nameB (QryP.bytes tk) = b at *
  go_enter Tryd.func70, Tryd.ntmps70
  go_wp2_with fail
  refine HRUN.out.mono ?_
  rintro e w1 ⟨rfl, hat⟩
  have HAT := Lib.hid hat
  clear hat HRUN
  go_wp2_with fail
  refine (HNM.out _).mono ?_
  rintro e w2 ⟨rfl, hb⟩
  have HAT2 : Hid (At s gp k w dk w2) := Lib.hid (by
    obtain ⟨hg, j, hj, hp, hr⟩ := HAT.out
    exact ⟨grown_trans' hg (only_of_below hb _), j, hj, hp.keep hb, hr⟩)
  clear hb
  cases b with
  | true =>
    obtain rfl : x = .ok (QryP.bytes tk, dk) := HX.out
    go_wp2_with fail
    go_ret
    exact ⟨_, rfl, rfl, HAT2.out⟩
  | false =>
    have HX2 : Hid (x = .error (n, 180)) := Lib.hid HX.out
    have HWR := Lib.hid (wrong_any ((s.size - n : Nat) : Int) w2)
    go_wp2_with fail
    refine HWR.out.mono ?_
    rintro e w3 ⟨rfl, rfl⟩
    refine ⟨rfl, ?_⟩
    rw [HX2.out]
    exact ⟨rfl, HAT2.out.1⟩
/-- The library's variables that the parser reads. -/
structure PTabs (w : World) : Prop where
  syn : ∃ ev, w.cell? ⟨2, 0, none⟩ = some ev ∧ (ev = .nilIface ∨ ∃ te pe, ev = .iface te pe)
  range : ∃ ev, w.cell? ⟨3, 0, none⟩ = some ev ∧ (ev = .nilIface ∨ ∃ te pe, ev = .iface te pe)
  pow : Lib.TabIs Tryd.prog w "internal/strconv.uint64pow10" .u64 Lib.pow10Tab
/-- They stand in whatever world keeps what lay below B. -/
def PT (B : Nat) (w : World) : Prop := B ≤ w.heap.size ∧ ∀ W, Below B w W → PTabs W
theorem PT.of {w : World} (h : PTabs w) : PT w.heap.size w := ⟨Nat.le_refl _, fun W hb => by
  obtain ⟨⟨ev, he, hv⟩, ⟨ev', he', hv'⟩, hp⟩ := h
  exact ⟨⟨ev, (hb.cell (World.block_lt_of_cell? w _ he)).trans he, hv⟩, ⟨ev', (hb.cell (World.block_lt_of_cell? w _ he')).trans he', hv'⟩, Go.Joins.tab_stays (g := 1) (by kernel_rfl) hp hb (Nat.le_refl _)⟩⟩
theorem PT.next {B : Nat} {w w' : World} (h : PT B w) (hb : Below B w w') : PT B w' := ⟨Nat.le_trans h.1 hb.size, fun W hW => h.2 W (hb.trans hW)⟩
theorem PT.here {B : Nat} {w : World} (h : PT B w) : PTabs w := h.2 w (Below.refl _ _)
theorem below_grown {B gp : Nat} {w w' : World} (hg : w.grownBy w' (some gp)) (hB : B ≤ w.heap.size) (hgp : B ≤ gp) : Below B w w' := ⟨hg.os, hg.tape, hg.output, hg.size, fun i hi => hg.block i (by omega) (fun e => by cases e; omega)⟩
theorem PT.grown {B gp : Nat} {w w' : World} (h : PT B w) (hg : w.grownBy w' (some gp)) (hgp : B ≤ gp) : PT B w' := h.next (below_grown hg h.1 hgp)
theorem pint_any (s : ByteArray) (hs : s.size ≤ 4096) (w : World) (hT : PTabs w) :
    Calls Tryd.prog 77 #[.string s, .int .i64 10, .int .i64 64] w (fun e w' => (∃ n a, e = .returned (.tuple #[.int .i64 n, a]) ∧ ((a = .nilIface ∧ parT s.data.toList = some n) ∨ (∃ t p, a = .iface t p ∧ parT s.data.toList = none))) ∧ Below w.heap.size w w') := by
  by_cases h : ∃ v, Lib.parseIntB 64 s.data.toList = .ok v
  · obtain ⟨v, hv⟩ := h
    refine (Tryd.strconv_ParseInt_10_at64_ok s (by omega) v hv w).mono fun e w' ⟨he, hw⟩ => ⟨⟨v, _, he, .inl ⟨rfl, by unfold parT; rw [hv]⟩⟩, ?_⟩
    rcases hw with rfl | ⟨t, rfl⟩
    · exact Below.refl _ _
    · exact ⟨rfl, rfl, rfl, by rw [Lib.bytesWorld_size]; omega, fun k hk => Lib.bytesWorld_at_old w _ t k hk⟩
  · by_cases h2 : Lib.parseIntB 64 s.data.toList = .range
    · obtain ⟨ev, he, hv⟩ := hT.range
      refine (Tryd.strconv_ParseInt_10_at64_range s (by omega) h2 ev w he hv).mono fun e w' ⟨N, he, _, _, hb⟩ => ⟨⟨_, _, he, .inr ⟨_, _, rfl, by unfold parT; rw [h2]⟩⟩, hb⟩
    · obtain ⟨ev, he, hv⟩ := hT.syn
      refine (Tryd.strconv_ParseInt_10_at64_none s (by omega) (fun v hv => h ⟨v, hv⟩) h2 ev w he hv).mono fun e w' ⟨N, he, _, _, hb⟩ => ⟨⟨_, _, he, .inr ⟨_, _, rfl, ?_⟩⟩, hb⟩
      unfold parT
      split
      · rename_i v hv; exact absurd ⟨v, hv⟩ h
      · rfl
theorem dig_cases (c : UInt8) : digB c = true ∧ decide (48 ≤ (c.toNat : Int)) = true ∧ decide ((c.toNat : Int) ≤ 57) = true ∨ digB c = false ∧ decide (48 ≤ (c.toNat : Int)) = false ∨ digB c = false ∧ decide (48 ≤ (c.toNat : Int)) = true ∧ decide ((c.toNat : Int) ≤ 57) = false := by
  by_cases h1 : 48 ≤ c.toNat
  · by_cases h2 : c.toNat ≤ 57
    · exact .inl ⟨decide_eq_true ⟨h1, h2⟩, decide_eq_true (by omega), decide_eq_true (by omega)⟩
    · exact .inr (.inr ⟨decide_eq_false (fun h => h2 h.2), decide_eq_true (by omega), decide_eq_false (by omega)⟩)
  · exact .inr (.inl ⟨decide_eq_false (fun h => h1 h.1), decide_eq_false (by omega)⟩)
theorem dig_rem {s : ByteArray} {k : Nat} (h : k < s.size) : (rem s k).takeWhile digB = (if digB s[k] then s[k] :: (rem s (k + 1)).takeWhile digB else []) ∧ (rem s k).dropWhile digB = (if digB s[k] then (rem s (k + 1)).dropWhile digB else rem s k) := by
  rw [rem_cons h, List.takeWhile_cons, List.dropWhile_cons]
  exact ⟨rfl, rfl⟩
/-- Behind a sign. -/
def Sgn (s : ByteArray) (j0 j1 : Nat) (f : R) : Prop := j0 ≤ j1 ∧ j1 ≤ s.size ∧ rem s j1 = restS f ∧ (rem s j0).take (j1 - j0) = signS f
theorem take_next {s : ByteArray} {a j : Nat} (ha : a ≤ j) (hj : j < s.size) : (rem s a).take (j + 1 - a) = (rem s a).take (j - a) ++ [s[j]] := by
  have hl : j - a < (rem s a).length := by rw [rem_len]; omega
  rw [show j + 1 - a = j - a + 1 by omega, List.take_succ_eq_append_getElem hl]
  congr 2
  simp only [rem, List.getElem_drop]
  simp [show a + (j - a) = j by omega]
  rfl
theorem take_two {s : ByteArray} {a b j : Nat} (h1 : a ≤ b) (h2 : b ≤ j) : (rem s a).take (j - a) = (rem s a).take (b - a) ++ (rem s b).take (j - b) := by
  unfold rem
  rw [show j - a = (b - a) + (j - b) by omega, List.take_add, List.drop_drop, show a + (b - a) = b by omega]
theorem sgn_yes {s : ByteArray} {j : Nat} {f : R} (h : j < s.size) (hf : f = s[j] :: rem s (j + 1)) (hm : s[j] = 45) : Sgn s j (j + 1) f := by
  refine ⟨by omega, h, ?_, ?_⟩
  · unfold restS; rw [hf, hm]; rfl
  · unfold signS; rw [rem_cons h, hf, hm, show j + 1 - j = 1 by omega]; rfl
theorem sgn_no {s : ByteArray} {j : Nat} {f : R} (h : j ≤ s.size) (hf : rem s j = f) (hm : f.head? ≠ some 45) : Sgn s j j f := by
  refine ⟨Nat.le_refl _, h, ?_, ?_⟩
  · unfold restS; rw [if_neg hm]; exact hf
  · unfold signS; rw [if_neg hm, Nat.sub_self]; rfl
theorem rem_over {s : ByteArray} {k : Nat} (h : s.size ≤ k) : rem s k = [] := by unfold rem; rw [List.drop_eq_nil_iff]; simpa using h
set_option maxRecDepth 100000 in
set_option maxHeartbeats 8000000 in
theorem number_any (B : Nat) (s : ByteArray) (gp k : Nat) (w : World) (h : Pa s gp k w) (hs : s.size ≤ 4096) (hB : B ≤ gp) (hT : PT B w) : Calls Tryd.prog 67 #[.pointer (some ⟨gp, 0, none⟩)] w (Out s gp k w (numS numT parT (rem s k)) fun n v _ => v = .int .i64 n ∧ I64 n) := by
  have HSK := Lib.hid (skip_any s gp k w h hs)
  have HPT0 := Lib.hid hT
  obtain ⟨x, hx⟩ : ∃ x, numS numT parT (rem s k) = x := ⟨_, rfl⟩
  rw [hx]
  have HX := Lib.hid hx
  clear h hT hx
  obtain ⟨f, hf⟩ : ∃ f, skipS (rem s k) = f := ⟨_, rfl⟩
  rw [hf] at HSK
  have HF := Lib.hid hf
  clear hf
  obtain ⟨tk, htk⟩ : ∃ t, (restS f).takeWhile digB = t := ⟨_, rfl⟩
  obtain ⟨dk, hdk⟩ : ∃ t, (restS f).dropWhile digB = t := ⟨_, rfl⟩
  have HTK := Lib.hid htk; have HDK := Lib.hid hdk
  have HXM : Hid (x = match parT (signS f ++ tk) with | none => .error (f.length, 180) | some n => if numT n = signS f ++ tk then .ok (n, dk) else .error (f.length, 180)) := Lib.hid (by rw [← HX.out, ← htk, ← hdk, ← HF.out]; rfl)
  clear htk hdk
  go_enter Tryd.func67, Tryd.ntmps67
  go_wp2_with fail
  refine HSK.out.mono ?_
  rintro e w1 ⟨rfl, hg, j0, hkj, hp, hrem⟩
  have HG1 := Lib.hid hg; have HJ1 := Lib.hid hp; have HR1 := Lib.hid hrem
  have hj0 := HJ1.out.le
  have c1 : w1.cell? ⟨gp, 1, none⟩ = some (.int .i64 j0) := HJ1.out.blk.cell 1
  clear hg hp hrem HSK
  go_upto_region 3 with fail
  by_cases hlt : j0 < s.size
  · have c0 : w1.cell? ⟨gp, 0, none⟩ = some (.string s) := HJ1.out.blk.cell 0
    have z1 : w1.frozen? ⟨gp, 1, none⟩ = false := HJ1.out.blk.frozen 1
    have h1 : (0 : Int) ≤ (j0 : Int) := by omega
    have h2 : (j0 : Int) < (s.size : Int) := by omega
    have hfc : f = s[j0] :: rem s (j0 + 1) := by rw [← HR1.out]; exact rem_cons hlt
    by_cases hm : s[j0] = 45
    · have d1 : ((s[j0].toNat : Int) == 45) = true := by rw [hm]; rfl
      have HSG : Hid (Sgn s j0 (j0 + 1) f) := Lib.hid (sgn_yes hlt hfc hm)
      clear hfc hm
      go_quiet (fail)
      go_upto_region 4 with fail
      have HJs : Hid (Pa s gp (j0 + 1) ((w1.drewN nq).setCell ⟨gp, 1, none⟩ (.int .i64 (j0 + 1)))) := Lib.hid ((HJ1.out.drewN nq).next 1 hlt _ (by omega))
      have HGs : Hid (w.grownBy ((w1.drewN nq).setCell ⟨gp, 1, none⟩ (.int .i64 (j0 + 1))) (some gp)) := Lib.hid (grown_next (only_drewN HG1.out nq) 1 _)
      go_upto_block 0 with fail
      generalize (w1.drewN nq).setCell ⟨gp, 1, none⟩ (.int .i64 (j0 + 1)) = ws at *
      go_upto_block 0 with fail
      go_cut [] from 41 (fun wx => ∃ j : Nat, (j0 + 1) ≤ j ∧ j ≤ s.size ∧ Hid (Pa s gp j wx) ∧ Hid (w.grownBy wx (some gp)) ∧ Hid ((rem s (j0 + 1)).take (j - (j0 + 1)) = tk ∧ rem s j = dk))
      case first =>
        have H0 : Hid (w.grownBy ws (some gp) ∧ ((rem s (j0 + 1)).take ((j0 + 1) - (j0 + 1)) ++ (rem s (j0 + 1)).takeWhile digB = tk ∧ (rem s (j0 + 1)).dropWhile digB = dk)) := Lib.hid ⟨HGs.out, by rw [Nat.sub_self, List.take_zero, HSG.out.2.2.1]; exact HTK.out, by rw [HSG.out.2.2.1]; exact HDK.out⟩
        have hj1s := HSG.out.2.1
        go_wp2_with fail
        go_loopg [] (s.size - ((j0 + 1))) (fun n wr => ∃ j : Nat, (j0 + 1) ≤ j ∧ j ≤ s.size ∧ n = s.size - j ∧ Hid (Pa s gp j wr) ∧ Hid (w.grownBy wr (some gp) ∧ ((rem s (j0 + 1)).take (j - (j0 + 1)) ++ (rem s j).takeWhile digB = tk ∧ (rem s j).dropWhile digB = dk)))
        case atStart => exact ⟨(j0 + 1), Nat.le_refl _, hj1s, rfl, HJs, H0⟩
        case round =>
          clear H0
          obtain ⟨j, hkj2, hj, rfl, HJ, HE⟩ := hrel
          by_cases hlt : j < s.size
          · have c0 : wr.cell? ⟨gp, 0, none⟩ = some (.string s) := HJ.out.blk.cell 0
            have c1 : wr.cell? ⟨gp, 1, none⟩ = some (.int .i64 j) := HJ.out.blk.cell 1
            have z1 : wr.frozen? ⟨gp, 1, none⟩ = false := HJ.out.blk.frozen 1
            have h1 : (0 : Int) ≤ (j : Int) := by omega
            have h2 : (j : Int) < (s.size : Int) := by omega
            have HS := Lib.hid (dig_rem hlt)
            have HTA := Lib.hid (take_next hkj2 hlt)
            have hdc := dig_cases s[j]
            generalize hlb : digB s[j] = b at *
            clear hlb
            rcases hdc with ⟨rfl, d1, d2⟩ | ⟨rfl, d1⟩ | ⟨rfl, d1, d2⟩
            · go_upto_region 5 with fail
              go_quiet (fail)
              go_wp2_with fail
              have HN : Hid (Pa s gp (j + 1) ((wr.drewN nq).setCell ⟨gp, 1, none⟩ (.int .i64 (j + 1)))) := Lib.hid ((HJ.out.drewN nq).next 1 hlt _ (by omega))
              have HG : Hid (w.grownBy ((wr.drewN nq).setCell ⟨gp, 1, none⟩ (.int .i64 (j + 1))) (some gp) ∧ ((rem s (j0 + 1)).take (j + 1 - (j0 + 1)) ++ (rem s (j + 1)).takeWhile digB = tk ∧ (rem s (j + 1)).dropWhile digB = dk)) := Lib.hid ⟨grown_next (only_drewN HE.out.1 nq) 1 _, by
                have := HE.out.2.1
                rw [HS.out.1] at this
                rw [HTA.out, ← this]; simp, by
                have := HE.out.2.2
                rw [HS.out.2] at this
                exact this⟩
              go_roundg (s.size - (j + 1))
              case measure => omega
              case rel => exact ⟨j + 1, by omega, by omega, rfl, HN, HG⟩
            all_goals
              have HT : Hid ((rem s (j0 + 1)).take (j - (j0 + 1)) = tk ∧ rem s j = dk) := Lib.hid ⟨by
                have := HE.out.2.1
                rw [HS.out.1] at this
                simpa using this, by
                have := HE.out.2.2
                rw [HS.out.2] at this
                exact this⟩
              go_upto_region 5 with fail
              go_quiet (fail)
              go_wp2_with fail
              go_meet
              exact ⟨j, hkj2, hj, HJ.out.drewN nq, only_drewN HE.out.1 nq, HT⟩
          · obtain rfl : j = s.size := by omega
            have c0 : wr.cell? ⟨gp, 0, none⟩ = some (.string s) := HJ.out.blk.cell 0
            have c1 : wr.cell? ⟨gp, 1, none⟩ = some (.int .i64 s.size) := HJ.out.blk.cell 1
            have HT : Hid ((rem s (j0 + 1)).take (s.size - (j0 + 1)) = tk ∧ rem s s.size = dk) := Lib.hid ⟨by
              have := HE.out.2.1
              rw [rem_nil] at this
              simpa using this, by
              have := HE.out.2.2
              rw [rem_nil] at this ⊢
              exact this⟩
            go_upto_region 5 with fail
            go_quiet (fail)
            go_wp2_with fail
            go_meet
            exact ⟨s.size, hkj2, hj, HJ.out.drewN nq, only_drewN HE.out.1 nq, HT⟩
      case rest =>
        obtain ⟨j, hkj2, hj, HJ, HG, HT⟩ := hcut
        have hj01 := HSG.out.1
        have HTXT : Hid (s.extract j0 j = QryP.bytes (signS f ++ tk)) := Lib.hid (by
          rw [ext_bytes (by omega) hj]
          congr 1
          rw [← HSG.out.2.2.2, ← HT.out.1]
          exact take_two (by omega) (by omega))
        skip
        have hTXd : (QryP.bytes (signS f ++ tk)).data.toList = signS f ++ tk := by simp [QryP.bytes]
        have hTXs : (QryP.bytes (signS f ++ tk)).size ≤ 4096 := by
          rw [← HTXT.out]
          have : (s.extract j0 j).size ≤ s.size := by rw [ByteArray.size_extract]; omega
          omega
        have hext := HTXT.out
        obtain ⟨TX, hTX⟩ : ∃ X, QryP.bytes (signS f ++ tk) = X := ⟨_, rfl⟩
        rw [hTX] at hTXd hTXs hext
        have HTXd := Lib.hid hTXd
        clear hTX hTXd HTXT
        have HPT := Lib.hid (HPT0.out.grown HG.out hB)
        have h3 : (0 : Int) ≤ (j0 : Int) := by omega
        have h4 : (j0 : Int) ≤ (j : Int) := by omega
        have h5 : (j : Int) ≤ (s.size : Int) := by omega
        go_upto_region 7 with fail
        refine wp_region_held_drew (S := fun V => Below wc.heap.size wc V) (by kernel_rfl) (Below.refl _ wc).drew (fun hZ0 => ?_)
        refine' wpAnyH_take (i := 0) (v := _) (by simp only [List.getElem?_toArray, List.getElem?_cons_zero]; rfl) (by kernel_rfl) (by kernel_rfl) (by kernel_rfl) (by exact fun _ _ _ h => h) (Or.inl ⟨by rfl, ?hy0_1⟩) hZ0 ?rs0_1
        case hy0_1 => intro V hSw; clear hSw; go_simp; try with_reducible rfl
        try simp only [Act.put, List.setIfInBounds_toArray, List.set_cons_zero, List.set_cons_succ]
        refine' wpAnyH_take (i := 1) (v := _) (by simp only [List.getElem?_toArray, List.getElem?_cons_succ, List.getElem?_cons_zero]; rfl) (by kernel_rfl) (by kernel_rfl) (by kernel_rfl) (by exact fun _ _ _ h => h) (Or.inl ⟨by rfl, ?hy1_2⟩) hZ0 ?rs1_2
        case hy1_2 => intro V hSw; clear hSw; go_simp; try with_reducible rfl
        try simp only [Act.put, List.setIfInBounds_toArray, List.set_cons_zero, List.set_cons_succ]
        refine' wpAnyH_take (i := 2) (v := _) (by simp only [List.getElem?_toArray, List.getElem?_cons_succ, List.getElem?_cons_zero]; rfl) (by kernel_rfl) (by kernel_rfl) (by kernel_rfl) (by exact fun _ _ _ h => h) (Or.inl ⟨by rfl, ?hy2_3⟩) hZ0 ?rs2_3
        case hy2_3 => intro V hSw; clear hSw; go_simp; try with_reducible rfl
        try simp only [Act.put, List.setIfInBounds_toArray, List.set_cons_zero, List.set_cons_succ]
        refine' wpAnyH_take (i := 3) (v := _) (by simp only [List.getElem?_toArray, List.getElem?_cons_succ, List.getElem?_cons_zero]; rfl) (by kernel_rfl) (by kernel_rfl) (by kernel_rfl) (by exact fun _ _ _ h => h) (Or.inl ⟨by rfl, ?hy3_4⟩) hZ0 ?rs3_4
        case hy3_4 => intro V hSw; have f0 := (HJ.out.keep hSw).blk.cell 0; clear hSw; go_simp; try with_reducible rfl
        try simp only [Act.put, List.setIfInBounds_toArray, List.set_cons_zero, List.set_cons_succ]
        refine' wpAnyH_take (i := 4) (v := _) (by simp only [List.getElem?_toArray, List.getElem?_cons_succ, List.getElem?_cons_zero]; rfl) (by kernel_rfl) (by kernel_rfl) (by kernel_rfl) (by exact fun _ _ _ h => h) (Or.inl ⟨by rfl, ?hy4_5⟩) hZ0 ?rs4_5
        case hy4_5 => intro V hSw; clear hSw; go_simp; try with_reducible rfl
        try simp only [Act.put, List.setIfInBounds_toArray, List.set_cons_zero, List.set_cons_succ]
        refine' wpAnyH_take (i := 5) (v := _) (by simp only [List.getElem?_toArray, List.getElem?_cons_succ, List.getElem?_cons_zero]; rfl) (by kernel_rfl) (by kernel_rfl) (by kernel_rfl) (by exact fun _ _ _ h => h) (Or.inl ⟨by rfl, ?hy5_6⟩) hZ0 ?rs5_6
        case hy5_6 => intro V hSw; clear hSw; go_simp; try with_reducible rfl
        try simp only [Act.put, List.setIfInBounds_toArray, List.set_cons_zero, List.set_cons_succ]
        refine' wpAnyH_take (i := 6) (v := _) (by simp only [List.getElem?_toArray, List.getElem?_cons_succ, List.getElem?_cons_zero]; rfl) (by kernel_rfl) (by kernel_rfl) (by kernel_rfl) (by exact fun _ _ _ h => h) (Or.inl ⟨by rfl, ?hy6_7⟩) hZ0 ?rs6_7
        case hy6_7 => intro V hSw; clear hSw; go_simp; try with_reducible rfl
        try simp only [Act.put, List.setIfInBounds_toArray, List.set_cons_zero, List.set_cons_succ]
        refine' wpAnyH_take (i := 7) (v := _) (by simp only [List.getElem?_toArray, List.getElem?_cons_succ, List.getElem?_cons_zero]; rfl) (by kernel_rfl) (by kernel_rfl) (by kernel_rfl) (by exact fun _ _ _ h => h) (Or.inl ⟨by rfl, ?hy7_8⟩) hZ0 ?rs7_8
        case hy7_8 => intro V hSw; clear hSw; go_simp; try with_reducible rfl
        try simp only [Act.put, List.setIfInBounds_toArray, List.set_cons_zero, List.set_cons_succ]
        refine' wpAnyH_take (i := 8) (v := _) (by simp only [List.getElem?_toArray, List.getElem?_cons_succ, List.getElem?_cons_zero]; rfl) (by kernel_rfl) (by kernel_rfl) (by kernel_rfl) (by exact fun _ _ _ h => h) (Or.inl ⟨by rfl, ?hy8_9⟩) hZ0 ?rs8_9
        case hy8_9 => intro V hSw; have f1 := (HJ.out.keep hSw).blk.cell 1; clear hSw; go_simp; try with_reducible rfl
        try simp only [Act.put, List.setIfInBounds_toArray, List.set_cons_zero, List.set_cons_succ]
        refine' wpAnyH_take (i := 9) (v := _) (by simp only [List.getElem?_toArray, List.getElem?_cons_succ, List.getElem?_cons_zero]; rfl) (by kernel_rfl) (by kernel_rfl) (by kernel_rfl) (by exact fun _ _ _ h => h) (Or.inl ⟨by rfl, ?hy9_10⟩) hZ0 ?rs9_10
        case hy9_10 => intro V hSw; clear hSw; go_simp; try with_reducible rfl
        try simp only [Act.put, List.setIfInBounds_toArray, List.set_cons_zero, List.set_cons_succ]
        refine wpAnyH_ready (rs := [10]) (by kernel_rfl) (by simp) ?_
        refine' AllReadyH.cons (by simp only [List.getElem?_toArray, List.getElem?_cons_succ, List.getElem?_cons_zero]; rfl) (fun KC hK => ?_) AllReadyH.nil
        go_simp
        refine (pint_any TX hTXs _ (HPT.out.next (hZ0.mono HPT.out.1)).here).mono ?_
        rintro e VA1 ⟨⟨n, a, rfl, hna⟩, hb⟩
        have hs1 : Below wc.heap.size wc VA1 := hZ0.trans (hb.mono hZ0.size)
        clear hb
        go_simp
        refine hK.out _ _ hs1 (fun hZ1 => ?_)
        clear hK
        try simp only [Act.put, List.setIfInBounds_toArray, List.set_cons_zero, List.set_cons_succ]
        refine' wpAnyH_take (i := 11) (v := _) (by simp only [List.getElem?_toArray, List.getElem?_cons_succ, List.getElem?_cons_zero]; rfl) (by kernel_rfl) (by kernel_rfl) (by kernel_rfl) (by exact fun _ _ _ h => h) (Or.inl ⟨by rfl, ?hy11_11⟩) hZ1 ?rs11_11
        case hy11_11 => intro V hSw; clear hSw; go_simp; try with_reducible rfl
        try simp only [Act.put, List.setIfInBounds_toArray, List.set_cons_zero, List.set_cons_succ]
        refine' wpAnyH_take (i := 12) (v := _) (by simp only [List.getElem?_toArray, List.getElem?_cons_succ, List.getElem?_cons_zero]; rfl) (by kernel_rfl) (by kernel_rfl) (by kernel_rfl) (by exact fun _ _ _ h => h) (Or.inl ⟨by rfl, ?hy12_12⟩) hZ1 ?rs12_12
        case hy12_12 => intro V hSw; clear hSw; go_simp; try with_reducible rfl
        try simp only [Act.put, List.setIfInBounds_toArray, List.set_cons_zero, List.set_cons_succ]
        refine' wpAnyH_take (i := 13) (v := _) (by simp only [List.getElem?_toArray, List.getElem?_cons_succ, List.getElem?_cons_zero]; rfl) (by kernel_rfl) (by kernel_rfl) (by kernel_rfl) (by exact fun _ _ _ h => h) (Or.inl ⟨by rfl, ?hy13_13⟩) hZ1 ?rs13_13
        case hy13_13 => intro V hSw; clear hSw; go_simp; try with_reducible rfl
        try simp only [Act.put, List.setIfInBounds_toArray, List.set_cons_zero, List.set_cons_succ]
        refine' wpAnyH_take (i := 14) (v := _) (by simp only [List.getElem?_toArray, List.getElem?_cons_succ, List.getElem?_cons_zero]; rfl) (by kernel_rfl) (by kernel_rfl) (by kernel_rfl) (by exact fun _ _ _ h => h) (Or.inl ⟨by rfl, ?hy14_14⟩) hZ1 ?rs14_14
        case hy14_14 => intro V hSw; clear hSw; go_simp; try with_reducible rfl
        try simp only [Act.put, List.setIfInBounds_toArray, List.set_cons_zero, List.set_cons_succ]
        refine' wpAnyH_take (i := 15) (v := _) (by simp only [List.getElem?_toArray, List.getElem?_cons_succ, List.getElem?_cons_zero]; rfl) (by kernel_rfl) (by kernel_rfl) (by kernel_rfl) (by exact fun _ _ _ h => h) (Or.inl ⟨by rfl, ?hy15_15⟩) hZ1 ?rs15_15
        case hy15_15 => intro V hSw; clear hSw; go_simp; try with_reducible rfl
        try simp only [Act.put, List.setIfInBounds_toArray, List.set_cons_zero, List.set_cons_succ]
        refine wpAnyH_done (by kernel_rfl) ?_ _
        have HB1 := Lib.hid hZ1
        have HJ8 : Hid (Pa s gp j VA1) := Lib.hid (HJ.out.keep hZ1)
        clear hZ0 hZ1 hs1
        have c0 : VA1.cell? ⟨gp, 0, none⟩ = some (.string s) := HJ8.out.blk.cell 0
        have c1 : VA1.cell? ⟨gp, 1, none⟩ = some (.int .i64 j) := HJ8.out.blk.cell 1
        rw [HTXd.out] at hna
        rcases hna with ⟨rfl, hp⟩ | ⟨ta, pa, rfl, hp⟩
        · have HXE : Hid (x = if numT n = signS f ++ tk then .ok (n, dk) else .error (f.length, 180)) := Lib.hid (by rw [HXM.out, hp])
          have hI := parT_in hp
          have HI := Lib.hid hI
          clear hp hI
          go_upto_region 8 with fail
          clear c0 c1
          refine wp_region_held_drew (S := fun V => Below VA1.heap.size VA1 V) (by kernel_rfl) (Below.refl _ VA1).drew (fun hZ0 => ?_)
          refine' wpAnyH_take (i := 0) (v := _) (by simp only [List.getElem?_toArray, List.getElem?_cons_zero]; rfl) (by kernel_rfl) (by kernel_rfl) (by kernel_rfl) (by exact fun _ _ _ h => h) (Or.inl ⟨by rfl, ?hy0_16⟩) hZ0 ?rs0_16
          case hy0_16 => intro V hSw; clear hSw; go_simp; try with_reducible rfl
          try simp only [Act.put, List.setIfInBounds_toArray, List.set_cons_zero, List.set_cons_succ]
          refine' wpAnyH_take (i := 1) (v := _) (by simp only [List.getElem?_toArray, List.getElem?_cons_succ, List.getElem?_cons_zero]; rfl) (by kernel_rfl) (by kernel_rfl) (by kernel_rfl) (by exact fun _ _ _ h => h) (Or.inl ⟨by rfl, ?hy1_17⟩) hZ0 ?rs1_17
          case hy1_17 => intro V hSw; clear hSw; go_simp; try with_reducible rfl
          try simp only [Act.put, List.setIfInBounds_toArray, List.set_cons_zero, List.set_cons_succ]
          refine' wpAnyH_take (i := 2) (v := _) (by simp only [List.getElem?_toArray, List.getElem?_cons_succ, List.getElem?_cons_zero]; rfl) (by kernel_rfl) (by kernel_rfl) (by kernel_rfl) (by exact fun _ _ _ h => h) (Or.inl ⟨by rfl, ?hy2_18⟩) hZ0 ?rs2_18
          case hy2_18 => intro V hSw; clear hSw; go_simp; try with_reducible rfl
          try simp only [Act.put, List.setIfInBounds_toArray, List.set_cons_zero, List.set_cons_succ]
          refine' wpAnyH_take (i := 3) (v := _) (by simp only [List.getElem?_toArray, List.getElem?_cons_succ, List.getElem?_cons_zero]; rfl) (by kernel_rfl) (by kernel_rfl) (by kernel_rfl) (by exact fun _ _ _ h => h) (Or.inl ⟨by rfl, ?hy3_19⟩) hZ0 ?rs3_19
          case hy3_19 => intro V hSw; clear hSw; go_simp; try with_reducible rfl
          try simp only [Act.put, List.setIfInBounds_toArray, List.set_cons_zero, List.set_cons_succ]
          refine' wpAnyH_take (i := 5) (v := _) (by simp only [List.getElem?_toArray, List.getElem?_cons_succ, List.getElem?_cons_zero]; rfl) (by kernel_rfl) (by kernel_rfl) (by kernel_rfl) (by exact fun _ _ _ h => h) (Or.inl ⟨by rfl, ?hy5_20⟩) hZ0 ?rs5_20
          case hy5_20 => intro V hSw; clear hSw; go_simp; try with_reducible rfl
          try simp only [Act.put, List.setIfInBounds_toArray, List.set_cons_zero, List.set_cons_succ]
          refine' wpAnyH_take (i := 6) (v := _) (by simp only [List.getElem?_toArray, List.getElem?_cons_succ, List.getElem?_cons_zero]; rfl) (by kernel_rfl) (by kernel_rfl) (by kernel_rfl) (by exact fun _ _ _ h => h) (Or.inl ⟨by rfl, ?hy6_21⟩) hZ0 ?rs6_21
          case hy6_21 => intro V hSw; clear hSw; go_simp; try with_reducible rfl
          try simp only [Act.put, List.setIfInBounds_toArray, List.set_cons_zero, List.set_cons_succ]
          refine' wpAnyH_take (i := 7) (v := _) (by simp only [List.getElem?_toArray, List.getElem?_cons_succ, List.getElem?_cons_zero]; rfl) (by kernel_rfl) (by kernel_rfl) (by kernel_rfl) (by exact fun _ _ _ h => h) (Or.inl ⟨by rfl, ?hy7_22⟩) hZ0 ?rs7_22
          case hy7_22 => intro V hSw; clear hSw; go_simp; try with_reducible rfl
          try simp only [Act.put, List.setIfInBounds_toArray, List.set_cons_zero, List.set_cons_succ]
          refine' wpAnyH_take (i := 8) (v := _) (by simp only [List.getElem?_toArray, List.getElem?_cons_succ, List.getElem?_cons_zero]; rfl) (by kernel_rfl) (by kernel_rfl) (by kernel_rfl) (by exact fun _ _ _ h => h) (Or.inl ⟨by rfl, ?hy8_23⟩) hZ0 ?rs8_23
          case hy8_23 => intro V hSw; have f0 := (HJ8.out.keep hSw).blk.cell 0; clear hSw; go_simp; try with_reducible rfl
          try simp only [Act.put, List.setIfInBounds_toArray, List.set_cons_zero, List.set_cons_succ]
          refine' wpAnyH_take (i := 9) (v := _) (by simp only [List.getElem?_toArray, List.getElem?_cons_succ, List.getElem?_cons_zero]; rfl) (by kernel_rfl) (by kernel_rfl) (by kernel_rfl) (by exact fun _ _ _ h => h) (Or.inl ⟨by rfl, ?hy9_24⟩) hZ0 ?rs9_24
          case hy9_24 => intro V hSw; clear hSw; go_simp; try with_reducible rfl
          try simp only [Act.put, List.setIfInBounds_toArray, List.set_cons_zero, List.set_cons_succ]
          refine' wpAnyH_take (i := 10) (v := _) (by simp only [List.getElem?_toArray, List.getElem?_cons_succ, List.getElem?_cons_zero]; rfl) (by kernel_rfl) (by kernel_rfl) (by kernel_rfl) (by exact fun _ _ _ h => h) (Or.inl ⟨by rfl, ?hy10_25⟩) hZ0 ?rs10_25
          case hy10_25 => intro V hSw; clear hSw; go_simp; try with_reducible rfl
          try simp only [Act.put, List.setIfInBounds_toArray, List.set_cons_zero, List.set_cons_succ]
          refine' wpAnyH_take (i := 11) (v := _) (by simp only [List.getElem?_toArray, List.getElem?_cons_succ, List.getElem?_cons_zero]; rfl) (by kernel_rfl) (by kernel_rfl) (by kernel_rfl) (by exact fun _ _ _ h => h) (Or.inl ⟨by rfl, ?hy11_26⟩) hZ0 ?rs11_26
          case hy11_26 => intro V hSw; clear hSw; go_simp; try with_reducible rfl
          try simp only [Act.put, List.setIfInBounds_toArray, List.set_cons_zero, List.set_cons_succ]
          refine' wpAnyH_take (i := 12) (v := _) (by simp only [List.getElem?_toArray, List.getElem?_cons_succ, List.getElem?_cons_zero]; rfl) (by kernel_rfl) (by kernel_rfl) (by kernel_rfl) (by exact fun _ _ _ h => h) (Or.inl ⟨by rfl, ?hy12_27⟩) hZ0 ?rs12_27
          case hy12_27 => intro V hSw; clear hSw; go_simp; try with_reducible rfl
          try simp only [Act.put, List.setIfInBounds_toArray, List.set_cons_zero, List.set_cons_succ]
          refine' wpAnyH_take (i := 13) (v := _) (by simp only [List.getElem?_toArray, List.getElem?_cons_succ, List.getElem?_cons_zero]; rfl) (by kernel_rfl) (by kernel_rfl) (by kernel_rfl) (by exact fun _ _ _ h => h) (Or.inl ⟨by rfl, ?hy13_28⟩) hZ0 ?rs13_28
          case hy13_28 => intro V hSw; have f1 := (HJ8.out.keep hSw).blk.cell 1; clear hSw; go_simp; try with_reducible rfl
          try simp only [Act.put, List.setIfInBounds_toArray, List.set_cons_zero, List.set_cons_succ]
          refine' wpAnyH_take (i := 14) (v := _) (by simp only [List.getElem?_toArray, List.getElem?_cons_succ, List.getElem?_cons_zero]; rfl) (by kernel_rfl) (by kernel_rfl) (by kernel_rfl) (by exact fun _ _ _ h => h) (Or.inl ⟨by rfl, ?hy14_29⟩) hZ0 ?rs14_29
          case hy14_29 => intro V hSw; clear hSw; go_simp; try with_reducible rfl
          try simp only [Act.put, List.setIfInBounds_toArray, List.set_cons_zero, List.set_cons_succ]
          refine wpAnyH_ready (rs := [4]) (by kernel_rfl) (by simp) ?_
          refine' AllReadyH.cons (by simp only [List.getElem?_toArray, List.getElem?_cons_succ, List.getElem?_cons_zero]; rfl) (fun KC hK => ?_) AllReadyH.nil
          go_simp
          refine (format_z n HI.out _ (HPT.out.next ((HB1.out.mono HPT.out.1).trans (hZ0.mono (Nat.le_trans HPT.out.1 HB1.out.size)))).here.pow).mono ?_
          rintro e VB1 ⟨rfl, hb⟩
          have hs1 : Below VA1.heap.size VA1 VB1 := hZ0.trans (hb.mono hZ0.size)
          clear hb
          go_simp
          refine hK.out _ _ hs1 (fun hZ1 => ?_)
          clear hK
          try simp only [Act.put, List.setIfInBounds_toArray, List.set_cons_zero, List.set_cons_succ]
          have HEQ : Hid (numT n = signS f ++ tk ↔ str (numT n) = TX) := Lib.hid (by
            rw [← HTXd.out]
            constructor
            · intro h; exact ByteArray.ext (Array.ext' (by simpa [str] using h))
            · intro h; rw [← h]; simp [str])
          by_cases hE : str (numT n) = TX
          · have HX2 : Hid (x = .ok (n, dk)) := Lib.hid (by rw [HXE.out, if_pos (HEQ.out.2 hE)])
            clear HEQ HXE
            refine' wpAnyH_take (i := 15) (v := _) (by simp only [List.getElem?_toArray, List.getElem?_cons_succ, List.getElem?_cons_zero]; rfl) (by kernel_rfl) (by kernel_rfl) (by kernel_rfl) (by exact fun _ _ _ h => h) (Or.inl ⟨by rfl, ?hy15_30⟩) hZ1 ?rs15_30
            case hy15_30 => intro V hSw; clear hSw; go_simp; try with_reducible rfl
            try simp only [Act.put, List.setIfInBounds_toArray, List.set_cons_zero, List.set_cons_succ]
            refine' wpAnyH_take (i := 16) (v := _) (by simp only [List.getElem?_toArray, List.getElem?_cons_succ, List.getElem?_cons_zero]; rfl) (by kernel_rfl) (by kernel_rfl) (by kernel_rfl) (by exact fun _ _ _ h => h) (Or.inl ⟨by rfl, ?hy16_31⟩) hZ1 ?rs16_31
            case hy16_31 => intro V hSw; clear hSw; go_simp; try with_reducible rfl
            try simp only [Act.put, List.setIfInBounds_toArray, List.set_cons_zero, List.set_cons_succ]
            refine wpAnyH_done (by kernel_rfl) ?_ _
            have HB2 := Lib.hid (HB1.out.trans (hZ1.mono HB1.out.size))
            clear hE hs1 hZ0 hZ1
            go_wp2_with fail
            go_ret
            rw [HX2.out]
            exact ⟨_, rfl, ⟨rfl, HI.out⟩, grown_trans' HG.out (only_of_below HB2.out _), j, by omega, HJ.out.keep HB2.out, HT.out.2⟩
          · have HX2 : Hid (x = .error (f.length, 180)) := Lib.hid (by rw [HXE.out, if_neg (fun h => hE (HEQ.out.1 h))])
            have dE : ((str (numT n)).toList == TX.toList) = false := by
              rw [beq_eq_false_iff_ne]
              intro h; exact hE (ByteArray.ext (Array.ext' (by rw [ByteArray.toList_eq, ByteArray.toList_eq] at h; exact h)))
            clear HEQ HXE
            refine' wpAnyH_take (i := 15) (v := _) (by simp only [List.getElem?_toArray, List.getElem?_cons_succ, List.getElem?_cons_zero]; rfl) (by kernel_rfl) (by kernel_rfl) (by kernel_rfl) (by exact fun _ _ _ h => h) (Or.inl ⟨by rfl, ?hy15_32⟩) hZ1 ?rs15_32
            case hy15_32 => intro V hSw; clear hSw; go_simp; try with_reducible rfl
            try simp only [Act.put, List.setIfInBounds_toArray, List.set_cons_zero, List.set_cons_succ]
            refine' wpAnyH_take (i := 16) (v := _) (by simp only [List.getElem?_toArray, List.getElem?_cons_succ, List.getElem?_cons_zero]; rfl) (by kernel_rfl) (by kernel_rfl) (by kernel_rfl) (by exact fun _ _ _ h => h) (Or.inl ⟨by rfl, ?hy16_33⟩) hZ1 ?rs16_33
            case hy16_33 => intro V hSw; clear hSw; go_simp; try with_reducible rfl
            try simp only [Act.put, List.setIfInBounds_toArray, List.set_cons_zero, List.set_cons_succ]
            refine wpAnyH_done (by kernel_rfl) ?_ _
            have HB2 := Lib.hid (HB1.out.trans (hZ1.mono HB1.out.size))
            have HWR := Lib.hid (wrong_any j0 VB1)
            clear hE hs1 hZ0 hZ1
            go_wp2_with fail
            refine HWR.out.mono ?_
            rintro e w3 ⟨rfl, rfl⟩
            refine ⟨rfl, ?_⟩
            rw [HX2.out, ← HR1.out]
            exact ⟨fault_at hj0 180, grown_trans' HG.out (only_of_below HB2.out _)⟩
        · have HX2 : Hid (x = .error (f.length, 180)) := Lib.hid (by rw [HXM.out, hp])
          clear hp
          go_upto_region 8 with fail
          go_quiet (fail)
          have HB2 := Lib.hid (below_drewN HB1.out nq)
          have HWR := Lib.hid (wrong_any j0 (VA1.drewN nq))
          go_wp2_with fail
          refine HWR.out.mono ?_
          rintro e w3 ⟨rfl, rfl⟩
          refine ⟨rfl, ?_⟩
          rw [HX2.out, ← HR1.out]
          exact ⟨fault_at hj0 180, grown_trans' HG.out (only_of_below HB2.out _)⟩
    · have d1 : ((s[j0].toNat : Int) == 45) = false := by
        rw [beq_eq_false_iff_ne]
        intro e; exact hm (UInt8.toNat_inj.1 (by show s[j0].toNat = 45; omega))
      have HSG : Hid (Sgn s j0 j0 f) := Lib.hid (sgn_no hj0 HR1.out (by rw [hfc]; simpa using hm))
      clear hfc hm
      go_quiet (fail)
      have HJs : Hid (Pa s gp j0 (w1.drewN nq)) := Lib.hid (HJ1.out.drewN nq)
      have HGs : Hid (w.grownBy (w1.drewN nq) (some gp)) := Lib.hid (only_drewN HG1.out nq)
      go_upto_block 0 with fail
      generalize w1.drewN nq = ws at *
      go_upto_block 0 with fail
      go_cut [] from 41 (fun wx => ∃ j : Nat, j0 ≤ j ∧ j ≤ s.size ∧ Hid (Pa s gp j wx) ∧ Hid (w.grownBy wx (some gp)) ∧ Hid ((rem s j0).take (j - j0) = tk ∧ rem s j = dk))
      case first =>
        have H0 : Hid (w.grownBy ws (some gp) ∧ ((rem s j0).take (j0 - j0) ++ (rem s j0).takeWhile digB = tk ∧ (rem s j0).dropWhile digB = dk)) := Lib.hid ⟨HGs.out, by rw [Nat.sub_self, List.take_zero, HSG.out.2.2.1]; exact HTK.out, by rw [HSG.out.2.2.1]; exact HDK.out⟩
        have hj1s := HSG.out.2.1
        go_wp2_with fail
        go_loopg [] (s.size - (j0)) (fun n wr => ∃ j : Nat, j0 ≤ j ∧ j ≤ s.size ∧ n = s.size - j ∧ Hid (Pa s gp j wr) ∧ Hid (w.grownBy wr (some gp) ∧ ((rem s j0).take (j - j0) ++ (rem s j).takeWhile digB = tk ∧ (rem s j).dropWhile digB = dk)))
        case atStart => exact ⟨j0, Nat.le_refl _, hj1s, rfl, HJs, H0⟩
        case round =>
          clear H0
          obtain ⟨j, hkj2, hj, rfl, HJ, HE⟩ := hrel
          by_cases hlt : j < s.size
          · have c0 : wr.cell? ⟨gp, 0, none⟩ = some (.string s) := HJ.out.blk.cell 0
            have c1 : wr.cell? ⟨gp, 1, none⟩ = some (.int .i64 j) := HJ.out.blk.cell 1
            have z1 : wr.frozen? ⟨gp, 1, none⟩ = false := HJ.out.blk.frozen 1
            have h1 : (0 : Int) ≤ (j : Int) := by omega
            have h2 : (j : Int) < (s.size : Int) := by omega
            have HS := Lib.hid (dig_rem hlt)
            have HTA := Lib.hid (take_next hkj2 hlt)
            have hdc := dig_cases s[j]
            generalize hlb : digB s[j] = b at *
            clear hlb
            rcases hdc with ⟨rfl, d1, d2⟩ | ⟨rfl, d1⟩ | ⟨rfl, d1, d2⟩
            · go_upto_region 5 with fail
              go_quiet (fail)
              go_wp2_with fail
              have HN : Hid (Pa s gp (j + 1) ((wr.drewN nq).setCell ⟨gp, 1, none⟩ (.int .i64 (j + 1)))) := Lib.hid ((HJ.out.drewN nq).next 1 hlt _ (by omega))
              have HG : Hid (w.grownBy ((wr.drewN nq).setCell ⟨gp, 1, none⟩ (.int .i64 (j + 1))) (some gp) ∧ ((rem s j0).take (j + 1 - j0) ++ (rem s (j + 1)).takeWhile digB = tk ∧ (rem s (j + 1)).dropWhile digB = dk)) := Lib.hid ⟨grown_next (only_drewN HE.out.1 nq) 1 _, by
                have := HE.out.2.1
                rw [HS.out.1] at this
                rw [HTA.out, ← this]; simp, by
                have := HE.out.2.2
                rw [HS.out.2] at this
                exact this⟩
              go_roundg (s.size - (j + 1))
              case measure => omega
              case rel => exact ⟨j + 1, by omega, by omega, rfl, HN, HG⟩
            all_goals
              have HT : Hid ((rem s j0).take (j - j0) = tk ∧ rem s j = dk) := Lib.hid ⟨by
                have := HE.out.2.1
                rw [HS.out.1] at this
                simpa using this, by
                have := HE.out.2.2
                rw [HS.out.2] at this
                exact this⟩
              go_upto_region 5 with fail
              go_quiet (fail)
              go_wp2_with fail
              go_meet
              exact ⟨j, hkj2, hj, HJ.out.drewN nq, only_drewN HE.out.1 nq, HT⟩
          · obtain rfl : j = s.size := by omega
            have c0 : wr.cell? ⟨gp, 0, none⟩ = some (.string s) := HJ.out.blk.cell 0
            have c1 : wr.cell? ⟨gp, 1, none⟩ = some (.int .i64 s.size) := HJ.out.blk.cell 1
            have HT : Hid ((rem s j0).take (s.size - j0) = tk ∧ rem s s.size = dk) := Lib.hid ⟨by
              have := HE.out.2.1
              rw [rem_nil] at this
              simpa using this, by
              have := HE.out.2.2
              rw [rem_nil] at this ⊢
              exact this⟩
            go_upto_region 5 with fail
            go_quiet (fail)
            go_wp2_with fail
            go_meet
            exact ⟨s.size, hkj2, hj, HJ.out.drewN nq, only_drewN HE.out.1 nq, HT⟩
      case rest =>
        obtain ⟨j, hkj2, hj, HJ, HG, HT⟩ := hcut
        have hj01 := HSG.out.1
        have HTXT : Hid (s.extract j0 j = QryP.bytes (signS f ++ tk)) := Lib.hid (by
          rw [ext_bytes (by omega) hj]
          congr 1
          rw [← HSG.out.2.2.2, ← HT.out.1]
          exact take_two (by omega) (by omega))
        skip
        have hTXd : (QryP.bytes (signS f ++ tk)).data.toList = signS f ++ tk := by simp [QryP.bytes]
        have hTXs : (QryP.bytes (signS f ++ tk)).size ≤ 4096 := by
          rw [← HTXT.out]
          have : (s.extract j0 j).size ≤ s.size := by rw [ByteArray.size_extract]; omega
          omega
        have hext := HTXT.out
        obtain ⟨TX, hTX⟩ : ∃ X, QryP.bytes (signS f ++ tk) = X := ⟨_, rfl⟩
        rw [hTX] at hTXd hTXs hext
        have HTXd := Lib.hid hTXd
        clear hTX hTXd HTXT
        have HPT := Lib.hid (HPT0.out.grown HG.out hB)
        have h3 : (0 : Int) ≤ (j0 : Int) := by omega
        have h4 : (j0 : Int) ≤ (j : Int) := by omega
        have h5 : (j : Int) ≤ (s.size : Int) := by omega
        go_upto_region 7 with fail
        refine wp_region_held_drew (S := fun V => Below wc.heap.size wc V) (by kernel_rfl) (Below.refl _ wc).drew (fun hZ0 => ?_)
        refine' wpAnyH_take (i := 0) (v := _) (by simp only [List.getElem?_toArray, List.getElem?_cons_zero]; rfl) (by kernel_rfl) (by kernel_rfl) (by kernel_rfl) (by exact fun _ _ _ h => h) (Or.inl ⟨by rfl, ?hy0_34⟩) hZ0 ?rs0_34
        case hy0_34 => intro V hSw; clear hSw; go_simp; try with_reducible rfl
        try simp only [Act.put, List.setIfInBounds_toArray, List.set_cons_zero, List.set_cons_succ]
        refine' wpAnyH_take (i := 1) (v := _) (by simp only [List.getElem?_toArray, List.getElem?_cons_succ, List.getElem?_cons_zero]; rfl) (by kernel_rfl) (by kernel_rfl) (by kernel_rfl) (by exact fun _ _ _ h => h) (Or.inl ⟨by rfl, ?hy1_35⟩) hZ0 ?rs1_35
        case hy1_35 => intro V hSw; clear hSw; go_simp; try with_reducible rfl
        try simp only [Act.put, List.setIfInBounds_toArray, List.set_cons_zero, List.set_cons_succ]
        refine' wpAnyH_take (i := 2) (v := _) (by simp only [List.getElem?_toArray, List.getElem?_cons_succ, List.getElem?_cons_zero]; rfl) (by kernel_rfl) (by kernel_rfl) (by kernel_rfl) (by exact fun _ _ _ h => h) (Or.inl ⟨by rfl, ?hy2_36⟩) hZ0 ?rs2_36
        case hy2_36 => intro V hSw; clear hSw; go_simp; try with_reducible rfl
        try simp only [Act.put, List.setIfInBounds_toArray, List.set_cons_zero, List.set_cons_succ]
        refine' wpAnyH_take (i := 3) (v := _) (by simp only [List.getElem?_toArray, List.getElem?_cons_succ, List.getElem?_cons_zero]; rfl) (by kernel_rfl) (by kernel_rfl) (by kernel_rfl) (by exact fun _ _ _ h => h) (Or.inl ⟨by rfl, ?hy3_37⟩) hZ0 ?rs3_37
        case hy3_37 => intro V hSw; have f0 := (HJ.out.keep hSw).blk.cell 0; clear hSw; go_simp; try with_reducible rfl
        try simp only [Act.put, List.setIfInBounds_toArray, List.set_cons_zero, List.set_cons_succ]
        refine' wpAnyH_take (i := 4) (v := _) (by simp only [List.getElem?_toArray, List.getElem?_cons_succ, List.getElem?_cons_zero]; rfl) (by kernel_rfl) (by kernel_rfl) (by kernel_rfl) (by exact fun _ _ _ h => h) (Or.inl ⟨by rfl, ?hy4_38⟩) hZ0 ?rs4_38
        case hy4_38 => intro V hSw; clear hSw; go_simp; try with_reducible rfl
        try simp only [Act.put, List.setIfInBounds_toArray, List.set_cons_zero, List.set_cons_succ]
        refine' wpAnyH_take (i := 5) (v := _) (by simp only [List.getElem?_toArray, List.getElem?_cons_succ, List.getElem?_cons_zero]; rfl) (by kernel_rfl) (by kernel_rfl) (by kernel_rfl) (by exact fun _ _ _ h => h) (Or.inl ⟨by rfl, ?hy5_39⟩) hZ0 ?rs5_39
        case hy5_39 => intro V hSw; clear hSw; go_simp; try with_reducible rfl
        try simp only [Act.put, List.setIfInBounds_toArray, List.set_cons_zero, List.set_cons_succ]
        refine' wpAnyH_take (i := 6) (v := _) (by simp only [List.getElem?_toArray, List.getElem?_cons_succ, List.getElem?_cons_zero]; rfl) (by kernel_rfl) (by kernel_rfl) (by kernel_rfl) (by exact fun _ _ _ h => h) (Or.inl ⟨by rfl, ?hy6_40⟩) hZ0 ?rs6_40
        case hy6_40 => intro V hSw; clear hSw; go_simp; try with_reducible rfl
        try simp only [Act.put, List.setIfInBounds_toArray, List.set_cons_zero, List.set_cons_succ]
        refine' wpAnyH_take (i := 7) (v := _) (by simp only [List.getElem?_toArray, List.getElem?_cons_succ, List.getElem?_cons_zero]; rfl) (by kernel_rfl) (by kernel_rfl) (by kernel_rfl) (by exact fun _ _ _ h => h) (Or.inl ⟨by rfl, ?hy7_41⟩) hZ0 ?rs7_41
        case hy7_41 => intro V hSw; clear hSw; go_simp; try with_reducible rfl
        try simp only [Act.put, List.setIfInBounds_toArray, List.set_cons_zero, List.set_cons_succ]
        refine' wpAnyH_take (i := 8) (v := _) (by simp only [List.getElem?_toArray, List.getElem?_cons_succ, List.getElem?_cons_zero]; rfl) (by kernel_rfl) (by kernel_rfl) (by kernel_rfl) (by exact fun _ _ _ h => h) (Or.inl ⟨by rfl, ?hy8_42⟩) hZ0 ?rs8_42
        case hy8_42 => intro V hSw; have f1 := (HJ.out.keep hSw).blk.cell 1; clear hSw; go_simp; try with_reducible rfl
        try simp only [Act.put, List.setIfInBounds_toArray, List.set_cons_zero, List.set_cons_succ]
        refine' wpAnyH_take (i := 9) (v := _) (by simp only [List.getElem?_toArray, List.getElem?_cons_succ, List.getElem?_cons_zero]; rfl) (by kernel_rfl) (by kernel_rfl) (by kernel_rfl) (by exact fun _ _ _ h => h) (Or.inl ⟨by rfl, ?hy9_43⟩) hZ0 ?rs9_43
        case hy9_43 => intro V hSw; clear hSw; go_simp; try with_reducible rfl
        try simp only [Act.put, List.setIfInBounds_toArray, List.set_cons_zero, List.set_cons_succ]
        refine wpAnyH_ready (rs := [10]) (by kernel_rfl) (by simp) ?_
        refine' AllReadyH.cons (by simp only [List.getElem?_toArray, List.getElem?_cons_succ, List.getElem?_cons_zero]; rfl) (fun KC hK => ?_) AllReadyH.nil
        go_simp
        refine (pint_any TX hTXs _ (HPT.out.next (hZ0.mono HPT.out.1)).here).mono ?_
        rintro e VA1 ⟨⟨n, a, rfl, hna⟩, hb⟩
        have hs1 : Below wc.heap.size wc VA1 := hZ0.trans (hb.mono hZ0.size)
        clear hb
        go_simp
        refine hK.out _ _ hs1 (fun hZ1 => ?_)
        clear hK
        try simp only [Act.put, List.setIfInBounds_toArray, List.set_cons_zero, List.set_cons_succ]
        refine' wpAnyH_take (i := 11) (v := _) (by simp only [List.getElem?_toArray, List.getElem?_cons_succ, List.getElem?_cons_zero]; rfl) (by kernel_rfl) (by kernel_rfl) (by kernel_rfl) (by exact fun _ _ _ h => h) (Or.inl ⟨by rfl, ?hy11_44⟩) hZ1 ?rs11_44
        case hy11_44 => intro V hSw; clear hSw; go_simp; try with_reducible rfl
        try simp only [Act.put, List.setIfInBounds_toArray, List.set_cons_zero, List.set_cons_succ]
        refine' wpAnyH_take (i := 12) (v := _) (by simp only [List.getElem?_toArray, List.getElem?_cons_succ, List.getElem?_cons_zero]; rfl) (by kernel_rfl) (by kernel_rfl) (by kernel_rfl) (by exact fun _ _ _ h => h) (Or.inl ⟨by rfl, ?hy12_45⟩) hZ1 ?rs12_45
        case hy12_45 => intro V hSw; clear hSw; go_simp; try with_reducible rfl
        try simp only [Act.put, List.setIfInBounds_toArray, List.set_cons_zero, List.set_cons_succ]
        refine' wpAnyH_take (i := 13) (v := _) (by simp only [List.getElem?_toArray, List.getElem?_cons_succ, List.getElem?_cons_zero]; rfl) (by kernel_rfl) (by kernel_rfl) (by kernel_rfl) (by exact fun _ _ _ h => h) (Or.inl ⟨by rfl, ?hy13_46⟩) hZ1 ?rs13_46
        case hy13_46 => intro V hSw; clear hSw; go_simp; try with_reducible rfl
        try simp only [Act.put, List.setIfInBounds_toArray, List.set_cons_zero, List.set_cons_succ]
        refine' wpAnyH_take (i := 14) (v := _) (by simp only [List.getElem?_toArray, List.getElem?_cons_succ, List.getElem?_cons_zero]; rfl) (by kernel_rfl) (by kernel_rfl) (by kernel_rfl) (by exact fun _ _ _ h => h) (Or.inl ⟨by rfl, ?hy14_47⟩) hZ1 ?rs14_47
        case hy14_47 => intro V hSw; clear hSw; go_simp; try with_reducible rfl
        try simp only [Act.put, List.setIfInBounds_toArray, List.set_cons_zero, List.set_cons_succ]
        refine' wpAnyH_take (i := 15) (v := _) (by simp only [List.getElem?_toArray, List.getElem?_cons_succ, List.getElem?_cons_zero]; rfl) (by kernel_rfl) (by kernel_rfl) (by kernel_rfl) (by exact fun _ _ _ h => h) (Or.inl ⟨by rfl, ?hy15_48⟩) hZ1 ?rs15_48
        case hy15_48 => intro V hSw; clear hSw; go_simp; try with_reducible rfl
        try simp only [Act.put, List.setIfInBounds_toArray, List.set_cons_zero, List.set_cons_succ]
        refine wpAnyH_done (by kernel_rfl) ?_ _
        have HB1 := Lib.hid hZ1
        have HJ8 : Hid (Pa s gp j VA1) := Lib.hid (HJ.out.keep hZ1)
        clear hZ0 hZ1 hs1
        have c0 : VA1.cell? ⟨gp, 0, none⟩ = some (.string s) := HJ8.out.blk.cell 0
        have c1 : VA1.cell? ⟨gp, 1, none⟩ = some (.int .i64 j) := HJ8.out.blk.cell 1
        rw [HTXd.out] at hna
        rcases hna with ⟨rfl, hp⟩ | ⟨ta, pa, rfl, hp⟩
        · have HXE : Hid (x = if numT n = signS f ++ tk then .ok (n, dk) else .error (f.length, 180)) := Lib.hid (by rw [HXM.out, hp])
          have hI := parT_in hp
          have HI := Lib.hid hI
          clear hp hI
          go_upto_region 8 with fail
          clear c0 c1
          refine wp_region_held_drew (S := fun V => Below VA1.heap.size VA1 V) (by kernel_rfl) (Below.refl _ VA1).drew (fun hZ0 => ?_)
          refine' wpAnyH_take (i := 0) (v := _) (by simp only [List.getElem?_toArray, List.getElem?_cons_zero]; rfl) (by kernel_rfl) (by kernel_rfl) (by kernel_rfl) (by exact fun _ _ _ h => h) (Or.inl ⟨by rfl, ?hy0_49⟩) hZ0 ?rs0_49
          case hy0_49 => intro V hSw; clear hSw; go_simp; try with_reducible rfl
          try simp only [Act.put, List.setIfInBounds_toArray, List.set_cons_zero, List.set_cons_succ]
          refine' wpAnyH_take (i := 1) (v := _) (by simp only [List.getElem?_toArray, List.getElem?_cons_succ, List.getElem?_cons_zero]; rfl) (by kernel_rfl) (by kernel_rfl) (by kernel_rfl) (by exact fun _ _ _ h => h) (Or.inl ⟨by rfl, ?hy1_50⟩) hZ0 ?rs1_50
          case hy1_50 => intro V hSw; clear hSw; go_simp; try with_reducible rfl
          try simp only [Act.put, List.setIfInBounds_toArray, List.set_cons_zero, List.set_cons_succ]
          refine' wpAnyH_take (i := 2) (v := _) (by simp only [List.getElem?_toArray, List.getElem?_cons_succ, List.getElem?_cons_zero]; rfl) (by kernel_rfl) (by kernel_rfl) (by kernel_rfl) (by exact fun _ _ _ h => h) (Or.inl ⟨by rfl, ?hy2_51⟩) hZ0 ?rs2_51
          case hy2_51 => intro V hSw; clear hSw; go_simp; try with_reducible rfl
          try simp only [Act.put, List.setIfInBounds_toArray, List.set_cons_zero, List.set_cons_succ]
          refine' wpAnyH_take (i := 3) (v := _) (by simp only [List.getElem?_toArray, List.getElem?_cons_succ, List.getElem?_cons_zero]; rfl) (by kernel_rfl) (by kernel_rfl) (by kernel_rfl) (by exact fun _ _ _ h => h) (Or.inl ⟨by rfl, ?hy3_52⟩) hZ0 ?rs3_52
          case hy3_52 => intro V hSw; clear hSw; go_simp; try with_reducible rfl
          try simp only [Act.put, List.setIfInBounds_toArray, List.set_cons_zero, List.set_cons_succ]
          refine' wpAnyH_take (i := 5) (v := _) (by simp only [List.getElem?_toArray, List.getElem?_cons_succ, List.getElem?_cons_zero]; rfl) (by kernel_rfl) (by kernel_rfl) (by kernel_rfl) (by exact fun _ _ _ h => h) (Or.inl ⟨by rfl, ?hy5_53⟩) hZ0 ?rs5_53
          case hy5_53 => intro V hSw; clear hSw; go_simp; try with_reducible rfl
          try simp only [Act.put, List.setIfInBounds_toArray, List.set_cons_zero, List.set_cons_succ]
          refine' wpAnyH_take (i := 6) (v := _) (by simp only [List.getElem?_toArray, List.getElem?_cons_succ, List.getElem?_cons_zero]; rfl) (by kernel_rfl) (by kernel_rfl) (by kernel_rfl) (by exact fun _ _ _ h => h) (Or.inl ⟨by rfl, ?hy6_54⟩) hZ0 ?rs6_54
          case hy6_54 => intro V hSw; clear hSw; go_simp; try with_reducible rfl
          try simp only [Act.put, List.setIfInBounds_toArray, List.set_cons_zero, List.set_cons_succ]
          refine' wpAnyH_take (i := 7) (v := _) (by simp only [List.getElem?_toArray, List.getElem?_cons_succ, List.getElem?_cons_zero]; rfl) (by kernel_rfl) (by kernel_rfl) (by kernel_rfl) (by exact fun _ _ _ h => h) (Or.inl ⟨by rfl, ?hy7_55⟩) hZ0 ?rs7_55
          case hy7_55 => intro V hSw; clear hSw; go_simp; try with_reducible rfl
          try simp only [Act.put, List.setIfInBounds_toArray, List.set_cons_zero, List.set_cons_succ]
          refine' wpAnyH_take (i := 8) (v := _) (by simp only [List.getElem?_toArray, List.getElem?_cons_succ, List.getElem?_cons_zero]; rfl) (by kernel_rfl) (by kernel_rfl) (by kernel_rfl) (by exact fun _ _ _ h => h) (Or.inl ⟨by rfl, ?hy8_56⟩) hZ0 ?rs8_56
          case hy8_56 => intro V hSw; have f0 := (HJ8.out.keep hSw).blk.cell 0; clear hSw; go_simp; try with_reducible rfl
          try simp only [Act.put, List.setIfInBounds_toArray, List.set_cons_zero, List.set_cons_succ]
          refine' wpAnyH_take (i := 9) (v := _) (by simp only [List.getElem?_toArray, List.getElem?_cons_succ, List.getElem?_cons_zero]; rfl) (by kernel_rfl) (by kernel_rfl) (by kernel_rfl) (by exact fun _ _ _ h => h) (Or.inl ⟨by rfl, ?hy9_57⟩) hZ0 ?rs9_57
          case hy9_57 => intro V hSw; clear hSw; go_simp; try with_reducible rfl
          try simp only [Act.put, List.setIfInBounds_toArray, List.set_cons_zero, List.set_cons_succ]
          refine' wpAnyH_take (i := 10) (v := _) (by simp only [List.getElem?_toArray, List.getElem?_cons_succ, List.getElem?_cons_zero]; rfl) (by kernel_rfl) (by kernel_rfl) (by kernel_rfl) (by exact fun _ _ _ h => h) (Or.inl ⟨by rfl, ?hy10_58⟩) hZ0 ?rs10_58
          case hy10_58 => intro V hSw; clear hSw; go_simp; try with_reducible rfl
          try simp only [Act.put, List.setIfInBounds_toArray, List.set_cons_zero, List.set_cons_succ]
          refine' wpAnyH_take (i := 11) (v := _) (by simp only [List.getElem?_toArray, List.getElem?_cons_succ, List.getElem?_cons_zero]; rfl) (by kernel_rfl) (by kernel_rfl) (by kernel_rfl) (by exact fun _ _ _ h => h) (Or.inl ⟨by rfl, ?hy11_59⟩) hZ0 ?rs11_59
          case hy11_59 => intro V hSw; clear hSw; go_simp; try with_reducible rfl
          try simp only [Act.put, List.setIfInBounds_toArray, List.set_cons_zero, List.set_cons_succ]
          refine' wpAnyH_take (i := 12) (v := _) (by simp only [List.getElem?_toArray, List.getElem?_cons_succ, List.getElem?_cons_zero]; rfl) (by kernel_rfl) (by kernel_rfl) (by kernel_rfl) (by exact fun _ _ _ h => h) (Or.inl ⟨by rfl, ?hy12_60⟩) hZ0 ?rs12_60
          case hy12_60 => intro V hSw; clear hSw; go_simp; try with_reducible rfl
          try simp only [Act.put, List.setIfInBounds_toArray, List.set_cons_zero, List.set_cons_succ]
          refine' wpAnyH_take (i := 13) (v := _) (by simp only [List.getElem?_toArray, List.getElem?_cons_succ, List.getElem?_cons_zero]; rfl) (by kernel_rfl) (by kernel_rfl) (by kernel_rfl) (by exact fun _ _ _ h => h) (Or.inl ⟨by rfl, ?hy13_61⟩) hZ0 ?rs13_61
          case hy13_61 => intro V hSw; have f1 := (HJ8.out.keep hSw).blk.cell 1; clear hSw; go_simp; try with_reducible rfl
          try simp only [Act.put, List.setIfInBounds_toArray, List.set_cons_zero, List.set_cons_succ]
          refine' wpAnyH_take (i := 14) (v := _) (by simp only [List.getElem?_toArray, List.getElem?_cons_succ, List.getElem?_cons_zero]; rfl) (by kernel_rfl) (by kernel_rfl) (by kernel_rfl) (by exact fun _ _ _ h => h) (Or.inl ⟨by rfl, ?hy14_62⟩) hZ0 ?rs14_62
          case hy14_62 => intro V hSw; clear hSw; go_simp; try with_reducible rfl
          try simp only [Act.put, List.setIfInBounds_toArray, List.set_cons_zero, List.set_cons_succ]
          refine wpAnyH_ready (rs := [4]) (by kernel_rfl) (by simp) ?_
          refine' AllReadyH.cons (by simp only [List.getElem?_toArray, List.getElem?_cons_succ, List.getElem?_cons_zero]; rfl) (fun KC hK => ?_) AllReadyH.nil
          go_simp
          refine (format_z n HI.out _ (HPT.out.next ((HB1.out.mono HPT.out.1).trans (hZ0.mono (Nat.le_trans HPT.out.1 HB1.out.size)))).here.pow).mono ?_
          rintro e VB1 ⟨rfl, hb⟩
          have hs1 : Below VA1.heap.size VA1 VB1 := hZ0.trans (hb.mono hZ0.size)
          clear hb
          go_simp
          refine hK.out _ _ hs1 (fun hZ1 => ?_)
          clear hK
          try simp only [Act.put, List.setIfInBounds_toArray, List.set_cons_zero, List.set_cons_succ]
          have HEQ : Hid (numT n = signS f ++ tk ↔ str (numT n) = TX) := Lib.hid (by
            rw [← HTXd.out]
            constructor
            · intro h; exact ByteArray.ext (Array.ext' (by simpa [str] using h))
            · intro h; rw [← h]; simp [str])
          by_cases hE : str (numT n) = TX
          · have HX2 : Hid (x = .ok (n, dk)) := Lib.hid (by rw [HXE.out, if_pos (HEQ.out.2 hE)])
            clear HEQ HXE
            refine' wpAnyH_take (i := 15) (v := _) (by simp only [List.getElem?_toArray, List.getElem?_cons_succ, List.getElem?_cons_zero]; rfl) (by kernel_rfl) (by kernel_rfl) (by kernel_rfl) (by exact fun _ _ _ h => h) (Or.inl ⟨by rfl, ?hy15_63⟩) hZ1 ?rs15_63
            case hy15_63 => intro V hSw; clear hSw; go_simp; try with_reducible rfl
            try simp only [Act.put, List.setIfInBounds_toArray, List.set_cons_zero, List.set_cons_succ]
            refine' wpAnyH_take (i := 16) (v := _) (by simp only [List.getElem?_toArray, List.getElem?_cons_succ, List.getElem?_cons_zero]; rfl) (by kernel_rfl) (by kernel_rfl) (by kernel_rfl) (by exact fun _ _ _ h => h) (Or.inl ⟨by rfl, ?hy16_64⟩) hZ1 ?rs16_64
            case hy16_64 => intro V hSw; clear hSw; go_simp; try with_reducible rfl
            try simp only [Act.put, List.setIfInBounds_toArray, List.set_cons_zero, List.set_cons_succ]
            refine wpAnyH_done (by kernel_rfl) ?_ _
            have HB2 := Lib.hid (HB1.out.trans (hZ1.mono HB1.out.size))
            clear hE hs1 hZ0 hZ1
            go_wp2_with fail
            go_ret
            rw [HX2.out]
            exact ⟨_, rfl, ⟨rfl, HI.out⟩, grown_trans' HG.out (only_of_below HB2.out _), j, by omega, HJ.out.keep HB2.out, HT.out.2⟩
          · have HX2 : Hid (x = .error (f.length, 180)) := Lib.hid (by rw [HXE.out, if_neg (fun h => hE (HEQ.out.1 h))])
            have dE : ((str (numT n)).toList == TX.toList) = false := by
              rw [beq_eq_false_iff_ne]
              intro h; exact hE (ByteArray.ext (Array.ext' (by rw [ByteArray.toList_eq, ByteArray.toList_eq] at h; exact h)))
            clear HEQ HXE
            refine' wpAnyH_take (i := 15) (v := _) (by simp only [List.getElem?_toArray, List.getElem?_cons_succ, List.getElem?_cons_zero]; rfl) (by kernel_rfl) (by kernel_rfl) (by kernel_rfl) (by exact fun _ _ _ h => h) (Or.inl ⟨by rfl, ?hy15_65⟩) hZ1 ?rs15_65
            case hy15_65 => intro V hSw; clear hSw; go_simp; try with_reducible rfl
            try simp only [Act.put, List.setIfInBounds_toArray, List.set_cons_zero, List.set_cons_succ]
            refine' wpAnyH_take (i := 16) (v := _) (by simp only [List.getElem?_toArray, List.getElem?_cons_succ, List.getElem?_cons_zero]; rfl) (by kernel_rfl) (by kernel_rfl) (by kernel_rfl) (by exact fun _ _ _ h => h) (Or.inl ⟨by rfl, ?hy16_66⟩) hZ1 ?rs16_66
            case hy16_66 => intro V hSw; clear hSw; go_simp; try with_reducible rfl
            try simp only [Act.put, List.setIfInBounds_toArray, List.set_cons_zero, List.set_cons_succ]
            refine wpAnyH_done (by kernel_rfl) ?_ _
            have HB2 := Lib.hid (HB1.out.trans (hZ1.mono HB1.out.size))
            have HWR := Lib.hid (wrong_any j0 VB1)
            clear hE hs1 hZ0 hZ1
            go_wp2_with fail
            refine HWR.out.mono ?_
            rintro e w3 ⟨rfl, rfl⟩
            refine ⟨rfl, ?_⟩
            rw [HX2.out, ← HR1.out]
            exact ⟨fault_at hj0 180, grown_trans' HG.out (only_of_below HB2.out _)⟩
        · have HX2 : Hid (x = .error (f.length, 180)) := Lib.hid (by rw [HXM.out, hp])
          clear hp
          go_upto_region 8 with fail
          go_quiet (fail)
          have HB2 := Lib.hid (below_drewN HB1.out nq)
          have HWR := Lib.hid (wrong_any j0 (VA1.drewN nq))
          go_wp2_with fail
          refine HWR.out.mono ?_
          rintro e w3 ⟨rfl, rfl⟩
          refine ⟨rfl, ?_⟩
          rw [HX2.out, ← HR1.out]
          exact ⟨fault_at hj0 180, grown_trans' HG.out (only_of_below HB2.out _)⟩
  · have hge : s.size ≤ j0 := by omega
    have c0 : w1.cell? ⟨gp, 0, none⟩ = some (.string s) := HJ1.out.blk.cell 0
    have d0 : decide ((j0 : Int) < (s.size : Int)) = false := decide_eq_false (by omega)
    have HSG : Hid (Sgn s j0 j0 f) := Lib.hid (sgn_no hj0 HR1.out (by rw [← HR1.out, rem_over hge]; simp))
    go_quiet (fail)
    have HJs : Hid (Pa s gp j0 (w1.drewN nq)) := Lib.hid (HJ1.out.drewN nq)
    have HGs : Hid (w.grownBy (w1.drewN nq) (some gp)) := Lib.hid (only_drewN HG1.out nq)
    go_upto_block 0 with fail
    clear d0
    generalize w1.drewN nq = ws at *
    go_upto_block 0 with fail
    go_cut [] from 41 (fun wx => ∃ j : Nat, j0 ≤ j ∧ j ≤ s.size ∧ Hid (Pa s gp j wx) ∧ Hid (w.grownBy wx (some gp)) ∧ Hid ((rem s j0).take (j - j0) = tk ∧ rem s j = dk))
    case first =>
      have H0 : Hid (w.grownBy ws (some gp) ∧ ((rem s j0).take (j0 - j0) ++ (rem s j0).takeWhile digB = tk ∧ (rem s j0).dropWhile digB = dk)) := Lib.hid ⟨HGs.out, by rw [Nat.sub_self, List.take_zero, HSG.out.2.2.1]; exact HTK.out, by rw [HSG.out.2.2.1]; exact HDK.out⟩
      have hj1s := HSG.out.2.1
      go_wp2_with fail
      go_loopg [] (s.size - (j0)) (fun n wr => ∃ j : Nat, j0 ≤ j ∧ j ≤ s.size ∧ n = s.size - j ∧ Hid (Pa s gp j wr) ∧ Hid (w.grownBy wr (some gp) ∧ ((rem s j0).take (j - j0) ++ (rem s j).takeWhile digB = tk ∧ (rem s j).dropWhile digB = dk)))
      case atStart => exact ⟨j0, Nat.le_refl _, hj1s, rfl, HJs, H0⟩
      case round =>
        clear H0
        obtain ⟨j, hkj2, hj, rfl, HJ, HE⟩ := hrel
        by_cases hlt : j < s.size
        · exact absurd hlt (by omega)
        · obtain rfl : j = s.size := by omega
          have c0 : wr.cell? ⟨gp, 0, none⟩ = some (.string s) := HJ.out.blk.cell 0
          have c1 : wr.cell? ⟨gp, 1, none⟩ = some (.int .i64 s.size) := HJ.out.blk.cell 1
          have HT : Hid ((rem s j0).take (s.size - j0) = tk ∧ rem s s.size = dk) := Lib.hid ⟨by
            have := HE.out.2.1
            rw [rem_nil] at this
            simpa using this, by
            have := HE.out.2.2
            rw [rem_nil] at this ⊢
            exact this⟩
          go_upto_region 5 with fail
          go_quiet (fail)
          go_wp2_with fail
          go_meet
          exact ⟨s.size, hkj2, hj, HJ.out.drewN nq, only_drewN HE.out.1 nq, HT⟩
    case rest =>
      obtain ⟨j, hkj2, hj, HJ, HG, HT⟩ := hcut
      have hj01 := HSG.out.1
      have HTXT : Hid (s.extract j0 j = QryP.bytes (signS f ++ tk)) := Lib.hid (by
        rw [ext_bytes (by omega) hj]
        congr 1
        rw [← HSG.out.2.2.2, ← HT.out.1]
        exact take_two (by omega) (by omega))
      skip
      have hTXd : (QryP.bytes (signS f ++ tk)).data.toList = signS f ++ tk := by simp [QryP.bytes]
      have hTXs : (QryP.bytes (signS f ++ tk)).size ≤ 4096 := by
        rw [← HTXT.out]
        have : (s.extract j0 j).size ≤ s.size := by rw [ByteArray.size_extract]; omega
        omega
      have hext := HTXT.out
      obtain ⟨TX, hTX⟩ : ∃ X, QryP.bytes (signS f ++ tk) = X := ⟨_, rfl⟩
      rw [hTX] at hTXd hTXs hext
      have HTXd := Lib.hid hTXd
      clear hTX hTXd HTXT
      have HPT := Lib.hid (HPT0.out.grown HG.out hB)
      have h3 : (0 : Int) ≤ (j0 : Int) := by omega
      have h4 : (j0 : Int) ≤ (j : Int) := by omega
      have h5 : (j : Int) ≤ (s.size : Int) := by omega
      go_upto_region 7 with fail
      refine wp_region_held_drew (S := fun V => Below wc.heap.size wc V) (by kernel_rfl) (Below.refl _ wc).drew (fun hZ0 => ?_)
      refine' wpAnyH_take (i := 0) (v := _) (by simp only [List.getElem?_toArray, List.getElem?_cons_zero]; rfl) (by kernel_rfl) (by kernel_rfl) (by kernel_rfl) (by exact fun _ _ _ h => h) (Or.inl ⟨by rfl, ?hy0_67⟩) hZ0 ?rs0_67
      case hy0_67 => intro V hSw; clear hSw; go_simp; try with_reducible rfl
      try simp only [Act.put, List.setIfInBounds_toArray, List.set_cons_zero, List.set_cons_succ]
      refine' wpAnyH_take (i := 1) (v := _) (by simp only [List.getElem?_toArray, List.getElem?_cons_succ, List.getElem?_cons_zero]; rfl) (by kernel_rfl) (by kernel_rfl) (by kernel_rfl) (by exact fun _ _ _ h => h) (Or.inl ⟨by rfl, ?hy1_68⟩) hZ0 ?rs1_68
      case hy1_68 => intro V hSw; clear hSw; go_simp; try with_reducible rfl
      try simp only [Act.put, List.setIfInBounds_toArray, List.set_cons_zero, List.set_cons_succ]
      refine' wpAnyH_take (i := 2) (v := _) (by simp only [List.getElem?_toArray, List.getElem?_cons_succ, List.getElem?_cons_zero]; rfl) (by kernel_rfl) (by kernel_rfl) (by kernel_rfl) (by exact fun _ _ _ h => h) (Or.inl ⟨by rfl, ?hy2_69⟩) hZ0 ?rs2_69
      case hy2_69 => intro V hSw; clear hSw; go_simp; try with_reducible rfl
      try simp only [Act.put, List.setIfInBounds_toArray, List.set_cons_zero, List.set_cons_succ]
      refine' wpAnyH_take (i := 3) (v := _) (by simp only [List.getElem?_toArray, List.getElem?_cons_succ, List.getElem?_cons_zero]; rfl) (by kernel_rfl) (by kernel_rfl) (by kernel_rfl) (by exact fun _ _ _ h => h) (Or.inl ⟨by rfl, ?hy3_70⟩) hZ0 ?rs3_70
      case hy3_70 => intro V hSw; have f0 := (HJ.out.keep hSw).blk.cell 0; clear hSw; go_simp; try with_reducible rfl
      try simp only [Act.put, List.setIfInBounds_toArray, List.set_cons_zero, List.set_cons_succ]
      refine' wpAnyH_take (i := 4) (v := _) (by simp only [List.getElem?_toArray, List.getElem?_cons_succ, List.getElem?_cons_zero]; rfl) (by kernel_rfl) (by kernel_rfl) (by kernel_rfl) (by exact fun _ _ _ h => h) (Or.inl ⟨by rfl, ?hy4_71⟩) hZ0 ?rs4_71
      case hy4_71 => intro V hSw; clear hSw; go_simp; try with_reducible rfl
      try simp only [Act.put, List.setIfInBounds_toArray, List.set_cons_zero, List.set_cons_succ]
      refine' wpAnyH_take (i := 5) (v := _) (by simp only [List.getElem?_toArray, List.getElem?_cons_succ, List.getElem?_cons_zero]; rfl) (by kernel_rfl) (by kernel_rfl) (by kernel_rfl) (by exact fun _ _ _ h => h) (Or.inl ⟨by rfl, ?hy5_72⟩) hZ0 ?rs5_72
      case hy5_72 => intro V hSw; clear hSw; go_simp; try with_reducible rfl
      try simp only [Act.put, List.setIfInBounds_toArray, List.set_cons_zero, List.set_cons_succ]
      refine' wpAnyH_take (i := 6) (v := _) (by simp only [List.getElem?_toArray, List.getElem?_cons_succ, List.getElem?_cons_zero]; rfl) (by kernel_rfl) (by kernel_rfl) (by kernel_rfl) (by exact fun _ _ _ h => h) (Or.inl ⟨by rfl, ?hy6_73⟩) hZ0 ?rs6_73
      case hy6_73 => intro V hSw; clear hSw; go_simp; try with_reducible rfl
      try simp only [Act.put, List.setIfInBounds_toArray, List.set_cons_zero, List.set_cons_succ]
      refine' wpAnyH_take (i := 7) (v := _) (by simp only [List.getElem?_toArray, List.getElem?_cons_succ, List.getElem?_cons_zero]; rfl) (by kernel_rfl) (by kernel_rfl) (by kernel_rfl) (by exact fun _ _ _ h => h) (Or.inl ⟨by rfl, ?hy7_74⟩) hZ0 ?rs7_74
      case hy7_74 => intro V hSw; clear hSw; go_simp; try with_reducible rfl
      try simp only [Act.put, List.setIfInBounds_toArray, List.set_cons_zero, List.set_cons_succ]
      refine' wpAnyH_take (i := 8) (v := _) (by simp only [List.getElem?_toArray, List.getElem?_cons_succ, List.getElem?_cons_zero]; rfl) (by kernel_rfl) (by kernel_rfl) (by kernel_rfl) (by exact fun _ _ _ h => h) (Or.inl ⟨by rfl, ?hy8_75⟩) hZ0 ?rs8_75
      case hy8_75 => intro V hSw; have f1 := (HJ.out.keep hSw).blk.cell 1; clear hSw; go_simp; try with_reducible rfl
      try simp only [Act.put, List.setIfInBounds_toArray, List.set_cons_zero, List.set_cons_succ]
      refine' wpAnyH_take (i := 9) (v := _) (by simp only [List.getElem?_toArray, List.getElem?_cons_succ, List.getElem?_cons_zero]; rfl) (by kernel_rfl) (by kernel_rfl) (by kernel_rfl) (by exact fun _ _ _ h => h) (Or.inl ⟨by rfl, ?hy9_76⟩) hZ0 ?rs9_76
      case hy9_76 => intro V hSw; clear hSw; go_simp; try with_reducible rfl
      try simp only [Act.put, List.setIfInBounds_toArray, List.set_cons_zero, List.set_cons_succ]
      refine wpAnyH_ready (rs := [10]) (by kernel_rfl) (by simp) ?_
      refine' AllReadyH.cons (by simp only [List.getElem?_toArray, List.getElem?_cons_succ, List.getElem?_cons_zero]; rfl) (fun KC hK => ?_) AllReadyH.nil
      go_simp
      refine (pint_any TX hTXs _ (HPT.out.next (hZ0.mono HPT.out.1)).here).mono ?_
      rintro e VA1 ⟨⟨n, a, rfl, hna⟩, hb⟩
      have hs1 : Below wc.heap.size wc VA1 := hZ0.trans (hb.mono hZ0.size)
      clear hb
      go_simp
      refine hK.out _ _ hs1 (fun hZ1 => ?_)
      clear hK
      try simp only [Act.put, List.setIfInBounds_toArray, List.set_cons_zero, List.set_cons_succ]
      refine' wpAnyH_take (i := 11) (v := _) (by simp only [List.getElem?_toArray, List.getElem?_cons_succ, List.getElem?_cons_zero]; rfl) (by kernel_rfl) (by kernel_rfl) (by kernel_rfl) (by exact fun _ _ _ h => h) (Or.inl ⟨by rfl, ?hy11_77⟩) hZ1 ?rs11_77
      case hy11_77 => intro V hSw; clear hSw; go_simp; try with_reducible rfl
      try simp only [Act.put, List.setIfInBounds_toArray, List.set_cons_zero, List.set_cons_succ]
      refine' wpAnyH_take (i := 12) (v := _) (by simp only [List.getElem?_toArray, List.getElem?_cons_succ, List.getElem?_cons_zero]; rfl) (by kernel_rfl) (by kernel_rfl) (by kernel_rfl) (by exact fun _ _ _ h => h) (Or.inl ⟨by rfl, ?hy12_78⟩) hZ1 ?rs12_78
      case hy12_78 => intro V hSw; clear hSw; go_simp; try with_reducible rfl
      try simp only [Act.put, List.setIfInBounds_toArray, List.set_cons_zero, List.set_cons_succ]
      refine' wpAnyH_take (i := 13) (v := _) (by simp only [List.getElem?_toArray, List.getElem?_cons_succ, List.getElem?_cons_zero]; rfl) (by kernel_rfl) (by kernel_rfl) (by kernel_rfl) (by exact fun _ _ _ h => h) (Or.inl ⟨by rfl, ?hy13_79⟩) hZ1 ?rs13_79
      case hy13_79 => intro V hSw; clear hSw; go_simp; try with_reducible rfl
      try simp only [Act.put, List.setIfInBounds_toArray, List.set_cons_zero, List.set_cons_succ]
      refine' wpAnyH_take (i := 14) (v := _) (by simp only [List.getElem?_toArray, List.getElem?_cons_succ, List.getElem?_cons_zero]; rfl) (by kernel_rfl) (by kernel_rfl) (by kernel_rfl) (by exact fun _ _ _ h => h) (Or.inl ⟨by rfl, ?hy14_80⟩) hZ1 ?rs14_80
      case hy14_80 => intro V hSw; clear hSw; go_simp; try with_reducible rfl
      try simp only [Act.put, List.setIfInBounds_toArray, List.set_cons_zero, List.set_cons_succ]
      refine' wpAnyH_take (i := 15) (v := _) (by simp only [List.getElem?_toArray, List.getElem?_cons_succ, List.getElem?_cons_zero]; rfl) (by kernel_rfl) (by kernel_rfl) (by kernel_rfl) (by exact fun _ _ _ h => h) (Or.inl ⟨by rfl, ?hy15_81⟩) hZ1 ?rs15_81
      case hy15_81 => intro V hSw; clear hSw; go_simp; try with_reducible rfl
      try simp only [Act.put, List.setIfInBounds_toArray, List.set_cons_zero, List.set_cons_succ]
      refine wpAnyH_done (by kernel_rfl) ?_ _
      have HB1 := Lib.hid hZ1
      have HJ8 : Hid (Pa s gp j VA1) := Lib.hid (HJ.out.keep hZ1)
      clear hZ0 hZ1 hs1
      have c0 : VA1.cell? ⟨gp, 0, none⟩ = some (.string s) := HJ8.out.blk.cell 0
      have c1 : VA1.cell? ⟨gp, 1, none⟩ = some (.int .i64 j) := HJ8.out.blk.cell 1
      rw [HTXd.out] at hna
      rcases hna with ⟨rfl, hp⟩ | ⟨ta, pa, rfl, hp⟩
      · have HXE : Hid (x = if numT n = signS f ++ tk then .ok (n, dk) else .error (f.length, 180)) := Lib.hid (by rw [HXM.out, hp])
        have hI := parT_in hp
        have HI := Lib.hid hI
        clear hp hI
        go_upto_region 8 with fail
        clear c0 c1
        refine wp_region_held_drew (S := fun V => Below VA1.heap.size VA1 V) (by kernel_rfl) (Below.refl _ VA1).drew (fun hZ0 => ?_)
        refine' wpAnyH_take (i := 0) (v := _) (by simp only [List.getElem?_toArray, List.getElem?_cons_zero]; rfl) (by kernel_rfl) (by kernel_rfl) (by kernel_rfl) (by exact fun _ _ _ h => h) (Or.inl ⟨by rfl, ?hy0_82⟩) hZ0 ?rs0_82
        case hy0_82 => intro V hSw; clear hSw; go_simp; try with_reducible rfl
        try simp only [Act.put, List.setIfInBounds_toArray, List.set_cons_zero, List.set_cons_succ]
        refine' wpAnyH_take (i := 1) (v := _) (by simp only [List.getElem?_toArray, List.getElem?_cons_succ, List.getElem?_cons_zero]; rfl) (by kernel_rfl) (by kernel_rfl) (by kernel_rfl) (by exact fun _ _ _ h => h) (Or.inl ⟨by rfl, ?hy1_83⟩) hZ0 ?rs1_83
        case hy1_83 => intro V hSw; clear hSw; go_simp; try with_reducible rfl
        try simp only [Act.put, List.setIfInBounds_toArray, List.set_cons_zero, List.set_cons_succ]
        refine' wpAnyH_take (i := 2) (v := _) (by simp only [List.getElem?_toArray, List.getElem?_cons_succ, List.getElem?_cons_zero]; rfl) (by kernel_rfl) (by kernel_rfl) (by kernel_rfl) (by exact fun _ _ _ h => h) (Or.inl ⟨by rfl, ?hy2_84⟩) hZ0 ?rs2_84
        case hy2_84 => intro V hSw; clear hSw; go_simp; try with_reducible rfl
        try simp only [Act.put, List.setIfInBounds_toArray, List.set_cons_zero, List.set_cons_succ]
        refine' wpAnyH_take (i := 3) (v := _) (by simp only [List.getElem?_toArray, List.getElem?_cons_succ, List.getElem?_cons_zero]; rfl) (by kernel_rfl) (by kernel_rfl) (by kernel_rfl) (by exact fun _ _ _ h => h) (Or.inl ⟨by rfl, ?hy3_85⟩) hZ0 ?rs3_85
        case hy3_85 => intro V hSw; clear hSw; go_simp; try with_reducible rfl
        try simp only [Act.put, List.setIfInBounds_toArray, List.set_cons_zero, List.set_cons_succ]
        refine' wpAnyH_take (i := 5) (v := _) (by simp only [List.getElem?_toArray, List.getElem?_cons_succ, List.getElem?_cons_zero]; rfl) (by kernel_rfl) (by kernel_rfl) (by kernel_rfl) (by exact fun _ _ _ h => h) (Or.inl ⟨by rfl, ?hy5_86⟩) hZ0 ?rs5_86
        case hy5_86 => intro V hSw; clear hSw; go_simp; try with_reducible rfl
        try simp only [Act.put, List.setIfInBounds_toArray, List.set_cons_zero, List.set_cons_succ]
        refine' wpAnyH_take (i := 6) (v := _) (by simp only [List.getElem?_toArray, List.getElem?_cons_succ, List.getElem?_cons_zero]; rfl) (by kernel_rfl) (by kernel_rfl) (by kernel_rfl) (by exact fun _ _ _ h => h) (Or.inl ⟨by rfl, ?hy6_87⟩) hZ0 ?rs6_87
        case hy6_87 => intro V hSw; clear hSw; go_simp; try with_reducible rfl
        try simp only [Act.put, List.setIfInBounds_toArray, List.set_cons_zero, List.set_cons_succ]
        refine' wpAnyH_take (i := 7) (v := _) (by simp only [List.getElem?_toArray, List.getElem?_cons_succ, List.getElem?_cons_zero]; rfl) (by kernel_rfl) (by kernel_rfl) (by kernel_rfl) (by exact fun _ _ _ h => h) (Or.inl ⟨by rfl, ?hy7_88⟩) hZ0 ?rs7_88
        case hy7_88 => intro V hSw; clear hSw; go_simp; try with_reducible rfl
        try simp only [Act.put, List.setIfInBounds_toArray, List.set_cons_zero, List.set_cons_succ]
        refine' wpAnyH_take (i := 8) (v := _) (by simp only [List.getElem?_toArray, List.getElem?_cons_succ, List.getElem?_cons_zero]; rfl) (by kernel_rfl) (by kernel_rfl) (by kernel_rfl) (by exact fun _ _ _ h => h) (Or.inl ⟨by rfl, ?hy8_89⟩) hZ0 ?rs8_89
        case hy8_89 => intro V hSw; have f0 := (HJ8.out.keep hSw).blk.cell 0; clear hSw; go_simp; try with_reducible rfl
        try simp only [Act.put, List.setIfInBounds_toArray, List.set_cons_zero, List.set_cons_succ]
        refine' wpAnyH_take (i := 9) (v := _) (by simp only [List.getElem?_toArray, List.getElem?_cons_succ, List.getElem?_cons_zero]; rfl) (by kernel_rfl) (by kernel_rfl) (by kernel_rfl) (by exact fun _ _ _ h => h) (Or.inl ⟨by rfl, ?hy9_90⟩) hZ0 ?rs9_90
        case hy9_90 => intro V hSw; clear hSw; go_simp; try with_reducible rfl
        try simp only [Act.put, List.setIfInBounds_toArray, List.set_cons_zero, List.set_cons_succ]
        refine' wpAnyH_take (i := 10) (v := _) (by simp only [List.getElem?_toArray, List.getElem?_cons_succ, List.getElem?_cons_zero]; rfl) (by kernel_rfl) (by kernel_rfl) (by kernel_rfl) (by exact fun _ _ _ h => h) (Or.inl ⟨by rfl, ?hy10_91⟩) hZ0 ?rs10_91
        case hy10_91 => intro V hSw; clear hSw; go_simp; try with_reducible rfl
        try simp only [Act.put, List.setIfInBounds_toArray, List.set_cons_zero, List.set_cons_succ]
        refine' wpAnyH_take (i := 11) (v := _) (by simp only [List.getElem?_toArray, List.getElem?_cons_succ, List.getElem?_cons_zero]; rfl) (by kernel_rfl) (by kernel_rfl) (by kernel_rfl) (by exact fun _ _ _ h => h) (Or.inl ⟨by rfl, ?hy11_92⟩) hZ0 ?rs11_92
        case hy11_92 => intro V hSw; clear hSw; go_simp; try with_reducible rfl
        try simp only [Act.put, List.setIfInBounds_toArray, List.set_cons_zero, List.set_cons_succ]
        refine' wpAnyH_take (i := 12) (v := _) (by simp only [List.getElem?_toArray, List.getElem?_cons_succ, List.getElem?_cons_zero]; rfl) (by kernel_rfl) (by kernel_rfl) (by kernel_rfl) (by exact fun _ _ _ h => h) (Or.inl ⟨by rfl, ?hy12_93⟩) hZ0 ?rs12_93
        case hy12_93 => intro V hSw; clear hSw; go_simp; try with_reducible rfl
        try simp only [Act.put, List.setIfInBounds_toArray, List.set_cons_zero, List.set_cons_succ]
        refine' wpAnyH_take (i := 13) (v := _) (by simp only [List.getElem?_toArray, List.getElem?_cons_succ, List.getElem?_cons_zero]; rfl) (by kernel_rfl) (by kernel_rfl) (by kernel_rfl) (by exact fun _ _ _ h => h) (Or.inl ⟨by rfl, ?hy13_94⟩) hZ0 ?rs13_94
        case hy13_94 => intro V hSw; have f1 := (HJ8.out.keep hSw).blk.cell 1; clear hSw; go_simp; try with_reducible rfl
        try simp only [Act.put, List.setIfInBounds_toArray, List.set_cons_zero, List.set_cons_succ]
        refine' wpAnyH_take (i := 14) (v := _) (by simp only [List.getElem?_toArray, List.getElem?_cons_succ, List.getElem?_cons_zero]; rfl) (by kernel_rfl) (by kernel_rfl) (by kernel_rfl) (by exact fun _ _ _ h => h) (Or.inl ⟨by rfl, ?hy14_95⟩) hZ0 ?rs14_95
        case hy14_95 => intro V hSw; clear hSw; go_simp; try with_reducible rfl
        try simp only [Act.put, List.setIfInBounds_toArray, List.set_cons_zero, List.set_cons_succ]
        refine wpAnyH_ready (rs := [4]) (by kernel_rfl) (by simp) ?_
        refine' AllReadyH.cons (by simp only [List.getElem?_toArray, List.getElem?_cons_succ, List.getElem?_cons_zero]; rfl) (fun KC hK => ?_) AllReadyH.nil
        go_simp
        refine (format_z n HI.out _ (HPT.out.next ((HB1.out.mono HPT.out.1).trans (hZ0.mono (Nat.le_trans HPT.out.1 HB1.out.size)))).here.pow).mono ?_
        rintro e VB1 ⟨rfl, hb⟩
        have hs1 : Below VA1.heap.size VA1 VB1 := hZ0.trans (hb.mono hZ0.size)
        clear hb
        go_simp
        refine hK.out _ _ hs1 (fun hZ1 => ?_)
        clear hK
        try simp only [Act.put, List.setIfInBounds_toArray, List.set_cons_zero, List.set_cons_succ]
        have HEQ : Hid (numT n = signS f ++ tk ↔ str (numT n) = TX) := Lib.hid (by
          rw [← HTXd.out]
          constructor
          · intro h; exact ByteArray.ext (Array.ext' (by simpa [str] using h))
          · intro h; rw [← h]; simp [str])
        by_cases hE : str (numT n) = TX
        · have HX2 : Hid (x = .ok (n, dk)) := Lib.hid (by rw [HXE.out, if_pos (HEQ.out.2 hE)])
          clear HEQ HXE
          refine' wpAnyH_take (i := 15) (v := _) (by simp only [List.getElem?_toArray, List.getElem?_cons_succ, List.getElem?_cons_zero]; rfl) (by kernel_rfl) (by kernel_rfl) (by kernel_rfl) (by exact fun _ _ _ h => h) (Or.inl ⟨by rfl, ?hy15_96⟩) hZ1 ?rs15_96
          case hy15_96 => intro V hSw; clear hSw; go_simp; try with_reducible rfl
          try simp only [Act.put, List.setIfInBounds_toArray, List.set_cons_zero, List.set_cons_succ]
          refine' wpAnyH_take (i := 16) (v := _) (by simp only [List.getElem?_toArray, List.getElem?_cons_succ, List.getElem?_cons_zero]; rfl) (by kernel_rfl) (by kernel_rfl) (by kernel_rfl) (by exact fun _ _ _ h => h) (Or.inl ⟨by rfl, ?hy16_97⟩) hZ1 ?rs16_97
          case hy16_97 => intro V hSw; clear hSw; go_simp; try with_reducible rfl
          try simp only [Act.put, List.setIfInBounds_toArray, List.set_cons_zero, List.set_cons_succ]
          refine wpAnyH_done (by kernel_rfl) ?_ _
          have HB2 := Lib.hid (HB1.out.trans (hZ1.mono HB1.out.size))
          clear hE hs1 hZ0 hZ1
          go_wp2_with fail
          go_ret
          rw [HX2.out]
          exact ⟨_, rfl, ⟨rfl, HI.out⟩, grown_trans' HG.out (only_of_below HB2.out _), j, by omega, HJ.out.keep HB2.out, HT.out.2⟩
        · have HX2 : Hid (x = .error (f.length, 180)) := Lib.hid (by rw [HXE.out, if_neg (fun h => hE (HEQ.out.1 h))])
          have dE : ((str (numT n)).toList == TX.toList) = false := by
            rw [beq_eq_false_iff_ne]
            intro h; exact hE (ByteArray.ext (Array.ext' (by rw [ByteArray.toList_eq, ByteArray.toList_eq] at h; exact h)))
          clear HEQ HXE
          refine' wpAnyH_take (i := 15) (v := _) (by simp only [List.getElem?_toArray, List.getElem?_cons_succ, List.getElem?_cons_zero]; rfl) (by kernel_rfl) (by kernel_rfl) (by kernel_rfl) (by exact fun _ _ _ h => h) (Or.inl ⟨by rfl, ?hy15_98⟩) hZ1 ?rs15_98
          case hy15_98 => intro V hSw; clear hSw; go_simp; try with_reducible rfl
          try simp only [Act.put, List.setIfInBounds_toArray, List.set_cons_zero, List.set_cons_succ]
          refine' wpAnyH_take (i := 16) (v := _) (by simp only [List.getElem?_toArray, List.getElem?_cons_succ, List.getElem?_cons_zero]; rfl) (by kernel_rfl) (by kernel_rfl) (by kernel_rfl) (by exact fun _ _ _ h => h) (Or.inl ⟨by rfl, ?hy16_99⟩) hZ1 ?rs16_99
          case hy16_99 => intro V hSw; clear hSw; go_simp; try with_reducible rfl
          try simp only [Act.put, List.setIfInBounds_toArray, List.set_cons_zero, List.set_cons_succ]
          refine wpAnyH_done (by kernel_rfl) ?_ _
          have HB2 := Lib.hid (HB1.out.trans (hZ1.mono HB1.out.size))
          have HWR := Lib.hid (wrong_any j0 VB1)
          clear hE hs1 hZ0 hZ1
          go_wp2_with fail
          refine HWR.out.mono ?_
          rintro e w3 ⟨rfl, rfl⟩
          refine ⟨rfl, ?_⟩
          rw [HX2.out, ← HR1.out]
          exact ⟨fault_at hj0 180, grown_trans' HG.out (only_of_below HB2.out _)⟩
      · have HX2 : Hid (x = .error (f.length, 180)) := Lib.hid (by rw [HXM.out, hp])
        clear hp
        go_upto_region 8 with fail
        go_quiet (fail)
        have HB2 := Lib.hid (below_drewN HB1.out nq)
        have HWR := Lib.hid (wrong_any j0 (VA1.drewN nq))
        go_wp2_with fail
        refine HWR.out.mono ?_
        rintro e w3 ⟨rfl, rfl⟩
        refine ⟨rfl, ?_⟩
        rw [HX2.out, ← HR1.out]
        exact ⟨fault_at hj0 180, grown_trans' HG.out (only_of_below HB2.out _)⟩
end Go.Proofs.YtinmiekbhoemjaaDoor.Qry
