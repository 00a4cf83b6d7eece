/- Contract: the document's Check of a schema. Written by gen_refcheck.py. -/
import Derived.Test.YtfckomjbgopmaaaGreatDoorPack20
import Derived.Test.YtfckomjbgopmaaaGreatDoorAnaRefCheck
set_option linter.unusedVariables false
namespace Go.Proofs.YtfckomjbgopmaaaGreatDoor.Sch
open Go.RowKit Words Tree SchP Kit Owned AnaP

theorem sgn_ways (k : Int) : k = 0 ∨ (k ≠ 0 ∧ k < 0 ∧ decide (k < 0) = true) ∨ (k ≠ 0 ∧ ¬ k < 0 ∧ decide (k < 0) = false ∧ 0 < k ∧ decide (0 < k) = true) := by
  rcases Int.lt_trichotomy k 0 with h | h | h
  · exact .inr (.inl ⟨by omega, h, decide_eq_true h⟩)
  · exact .inl h
  · exact .inr (.inr ⟨by omega, by omega, decide_eq_false (by omega), h, decide_eq_true h⟩)
theorem nine_ways (k : Int) : (k < 0 ∧ decide (k < 0) = true) ∨ (¬ k < 0 ∧ decide (k < 0) = false ∧ 9 < k ∧ decide (9 < k) = true) ∨ (0 ≤ k ∧ k ≤ 9 ∧ ¬ k < 0 ∧ decide (k < 0) = false ∧ ¬ 9 < k ∧ decide (9 < k) = false) := by
  by_cases h : k < 0
  · exact .inl ⟨h, decide_eq_true h⟩
  · by_cases h2 : 9 < k
    · exact .inr (.inl ⟨h, decide_eq_false h, h2, decide_eq_true h2⟩)
    · exact .inr (.inr ⟨by omega, by omega, h, decide_eq_false h, h2, decide_eq_false h2⟩)
theorem four_ways (k : Int) : (k < 1 ∧ decide (k < 1) = true) ∨ (¬ k < 1 ∧ decide (k < 1) = false ∧ 4 < k ∧ decide (4 < k) = true) ∨ (1 ≤ k ∧ k ≤ 4 ∧ ¬ k < 1 ∧ decide (k < 1) = false ∧ ¬ 4 < k ∧ decide (4 < k) = false ∧ (k != k) = false) := by
  by_cases h : k < 1
  · exact .inl ⟨h, decide_eq_true h⟩
  · by_cases h2 : 4 < k
    · exact .inr (.inl ⟨h, decide_eq_false h, h2, decide_eq_true h2⟩)
    · exact .inr (.inr ⟨by omega, by omega, h, decide_eq_false h, h2, decide_eq_false h2, by simp⟩)
theorem len_ways (n : Nat) : n = 0 ∨ (n ≠ 0 ∧ ((n : Int) != 0) = true ∧ (n != 0) = true) := by
  by_cases h : n = 0
  · exact .inl h
  · exact .inr ⟨h, by simpa using h, by simpa using h⟩
set_option maxRecDepth 100000 in
set_option maxHeartbeats 16000000 in
theorem refCheckS_any (u : Value) (l : List FT) (w : World) (hu : T.At bare w (fun g => g < w.heap.size) (fieldsT l) u) (hl : l.length * 72 ≤ 140737488351232) (hf : ∀ f ∈ l, FOk f) :
    Calls Tryz.prog 34 #[.agg #[u]] w (IntB (errS (checkS l)) w) := by
  obtain ⟨A, cap, rfl, hc, hm, hel⟩ := at_row fcells_len hu
  have EL := Lib.hid hel
  have HF := Lib.hid hf
  obtain ⟨r, hr⟩ : ∃ r, checkS l = r := ⟨_, rfl⟩
  have HR := Lib.hid hr
  rw [hr]
  clear hel hu hf hr
  rcases (show l.length = 0 ∨ 16 < l.length ∨ (1 ≤ l.length ∧ l.length ≤ 16) by omega) with h0 | h0 | ⟨h0, h1⟩
  · have HRF : Hid (r = false) := Lib.hid (by rw [← HR.out, checkS, h0]; simp)
    rw [h0]
    clear EL HF HR
    go_enter Tryz.func34, Tryz.ntmps34
    go_wp2_with fail
    go_ret
    rw [HRF.out]
    exact ⟨rfl, (Below.refl _ _).alloc (Nat.le_refl _) _⟩
  · have HRF : Hid (r = false) := Lib.hid (by rw [← HR.out, checkS]; simp; omega)
    have a1 : ((l.length : Int) == 0) = false := by rw [beq_eq_false_iff_ne]; omega
    have a2 : decide ((16 : Int) < l.length) = true := by rw [decide_eq_true_iff]; omega
    go_enter Tryz.func34, Tryz.ntmps34
    go_wp2_with fail
    go_ret
    rw [HRF.out]
    exact ⟨rfl, (Below.refl _ _).alloc (Nat.le_refl _) _⟩
  have HRQ : Hid (r = okTo l l.length) := Lib.hid (by rw [← HR.out, checkS, decide_eq_true h0, decide_eq_true h1]; simp)
  have a1 : ((l.length : Int) == 0) = false := by rw [beq_eq_false_iff_ne]; omega
  have a2 : decide ((16 : Int) < l.length) = false := by rw [decide_eq_false_iff_not]; omega
  clear HR
  go_enter Tryz.func34, Tryz.ntmps34
  go_wp2_with fail
  have HB := Lib.hid ((Below.refl _ w).alloc (Nat.le_refl _) (Obj.cells #[.slice A l.length cap] 24))
  have BA := Lib.hid (Blk.new w 24 #[.slice A l.length cap])
  have hzW : (w.alloc (Obj.cells #[.slice A l.length cap] 24)).heap.size = w.heap.size + 1 := by simp
  generalize w.alloc (Obj.cells #[.slice A l.length cap] 24) = W at *
  go_loopw [3] (fun i wr => ∃ k : Nat, k ≤ l.length ∧ i = .int .i64 k ∧ Hid (okTo l k = true) ∧ Hid (Below W.heap.size W wr)) (fun i _ => l.length - (intOf i).toNat)
  case atStart => exact ⟨0, by omega, rfl, Lib.hid (okTo_zero l), Lib.hid (Below.refl _ _)⟩
  case round =>
    obtain ⟨k, hkk, rfl, HK, HW⟩ := hrel
    obtain ⟨wo, hwo⟩ : ∃ wo : World, wo = wr := ⟨_, rfl⟩
    subst hwo
    have BA2 := Lib.hid (BA.out.below HW.out (by omega))
    have hcA : wo.cell? ⟨w.heap.size, 0, none⟩ = some (.slice A l.length cap) := BA2.out.cell 0
    have hzr := HW.out.size
    have HWW : Hid (Below w.heap.size w wo) := Lib.hid (HB.out.trans (HW.out.mono HB.out.size))
    by_cases hlt : k < l.length
    · obtain ⟨ad, us, rfl, hba, au, lu, cu⟩ := EL.out k hlt
      replace cu := cu.keep (w' := wo) (fun p hp => HWW.out.cell (by rw [hp, block_of_add]; exact hba))
      have hab : (ad.add (k * 7)).block < wo.heap.size := by rw [block_of_add]; omega
      have hok := HF.out _ (List.getElem_mem hlt)
      have HS : Hid (okTo l (k + 1) = (firstB l k && mayB l[k])) := Lib.hid (by rw [okTo_succ, HK.out, okAt_eq hlt]; simp)
      have HNO : Hid ((firstB l k && mayB l[k]) = false → r = false) := Lib.hid (fun h => by rw [HRQ.out]; exact okTo_no (by rw [okAt_eq hlt]; exact h) hlt)
      have HFI : Hid (firstB l k = true ↔ ∀ (m : Nat) (hk : m < k), (l[m]'(by omega)).name ≠ l[k].name) := Lib.hid (firstB_iff hlt)
      generalize l[k] = f at *
      obtain ⟨vc, rfl, gc⟩ := at_fcells au
      obtain ⟨X, z, rfl, hz, hmz, hrd⟩ := at_nums gc
      have HC := Lib.hid (fun (V : World) (hV : Below w.heap.size w V) => Ana.refCheck_any X f.chain.length z f.chain V rfl ((hrd.below hV).more hV.size) (Nat.le_trans hz hmz))
      have HNM := Lib.hid (fun (V : World) (_ : Below w.heap.size w V) => refName_any f.name V hok.name)
      obtain ⟨a0, a1', a2', a3, a4, a5, a6⟩ := seven cu
      have HMQ : Hid (∀ b r0 : Bool, nameB f.name = b → checkB f.chain = r0 → mayB f = (b && (decide (f.kind = 1) || decide (f.chain.length = 0)) && (decide (f.kind = 4) || decide (f.scale = 0)) && (decide (f.kind = 5) || decide (f.dims = 0)) && (if f.kind = 1 then r0 else if f.kind = 2 ∨ f.kind = 3 then true else if f.kind = 4 then decide (0 ≤ f.scale ∧ f.scale ≤ 9) else if f.kind = 5 then decide (1 ≤ f.dims ∧ f.dims ≤ 4) else false))) := Lib.hid (by intro b r0 h1 h2; unfold mayB kindB; rw [h1, h2])
      obtain ⟨b, hb⟩ : ∃ b, nameB f.name = b := ⟨_, rfl⟩
      obtain ⟨r0, hr0⟩ : ∃ r0, checkB f.chain = r0 := ⟨_, rfl⟩
      have HQ := Lib.hid (HMQ.out b r0 hb hr0)
      rw [hb] at HNM
      rw [hr0] at HC
      clear cu au lu gc hok hrd hb hr0 HMQ
      obtain ⟨nm, kd, ch, sc, di, mn, st⟩ := f
      dsimp only at *
      have hw1 : w.heap.size < wo.heap.size := by omega
      generalize hch : ch.length = n at *
      go_wp2_with fail
      refine (HNM.out _ (HWW.out.alloc HWW.out.size _)).mono ?_
      rintro e W1 ⟨rfl, b1⟩
      have HB1 := Lib.hid (((Below.refl _ wo).alloc (Nat.le_refl _) _).trans (b1.mono (by simp)) : Below wo.heap.size wo W1)
      have BF := Lib.hid ((Blk.new wo 54 #[.string nm, .int .i64 kd, .slice X n z, .int .i64 sc, .int .i64 di, .bool mn, .bool st]).below b1 (by simp))
      have hz1 : wo.heap.size + 1 ≤ W1.heap.size := by have := b1.size; simpa using this
      clear b1 a0 a1' a2' a3 a4 a5 a6 hcA
      cases b with
      | false =>
        have HN : Hid (r = false) := Lib.hid (HNO.out (by rw [HQ.out]; simp))
        go_wp2_with fail
        go_ret
        rw [HN.out]
        exact ⟨rfl, HWW.out.trans (HB1.out.mono HWW.out.size)⟩
      | true =>
      go_wp2_with fail
      go_loopw [5] (fun q wq => ∃ j : Nat, j ≤ k ∧ q = .int .i64 j ∧ Hid (∀ (m : Nat) (hm : m < j) (hm2 : m < l.length), l[m].name ≠ nm) ∧ Hid (Below W1.heap.size W1 wq)) (fun q _ => k - (intOf q).toNat)
      case atStart => exact ⟨0, by omega, rfl, Lib.hid (fun m hm => by omega), Lib.hid (Below.refl _ _)⟩
      case round =>
        obtain ⟨j, hj, rfl, HU, HV⟩ := hrel
        have HB2 := Lib.hid (HB1.out.trans (HV.out.mono (by omega)) : Below wo.heap.size wo wr)
        have HWV := Lib.hid (HWW.out.trans (HB2.out.mono HWW.out.size))
        have BF2 := Lib.hid (BF.out.below HV.out BF.out.lt)
        have BA3 := Lib.hid (BA2.out.below HB2.out BA2.out.lt)
        by_cases hjk : j < k
        · have hjl : j < l.length := by omega
          obtain ⟨ad', us', he, hba', au', lu', cu'⟩ := EL.out j hjl
          injection he with he
          subst he
          replace cu' := cu'.keep (fun p hp => HWV.out.cell (by rw [hp, block_of_add]; exact hba'))
          have HUS : Hid (l[j].name ≠ nm → ∀ (m : Nat) (hm : m < j + 1) (hm2 : m < l.length), l[m].name ≠ nm) := Lib.hid (fun h m hm hm2 => by
            rcases Nat.lt_or_ge m j with h3 | h3
            · exact HU.out m h3 hm2
            · obtain rfl : m = j := by omega
              exact h)
          have HUF : Hid (l[j].name = nm → r = false) := Lib.hid (fun h => HNO.out (by
            have : firstB l k = false := by
              cases hfb : firstB l k with
              | false => rfl
              | true => exact absurd h (HFI.out.1 hfb j hjk)
            rw [this]; rfl))
          generalize l[j] = y at *
          obtain ⟨vc', rfl, gc'⟩ := at_fcells au'
          have c0 := cu'.zero
          have cA := BA3.out.cell 0
          have p0 := BF2.out.cell 0
          simp only [List.getElem?_toArray, List.getElem?_cons_zero] at cA p0
          have hjl2 : (j : Int) < (l.length : Int) := by omega
          clear cu' au' lu' gc'
          obtain ⟨y0, y1, y2, y3, y4, y5, y6⟩ := y
          dsimp only at *
          rcases str_cases y0 nm with ⟨h1', h2'⟩ | ⟨h1', h2'⟩
          · have HN : Hid (r = false) := Lib.hid (HUF.out h1')
            clear h1' HUF HUS
            go_wp2_with fail
            go_quiet (fail)
            go_wp2_with fail
            go_ret
            rw [HN.out]
            exact ⟨rfl, Words.below_drewN HWV.out _⟩
          · have HN := Lib.hid (HUS.out h1')
            clear h1' HUF HUS
            go_wp2_with fail
            go_quiet (fail)
            go_wp2_with fail
            go_roundw
            case rel => exact ⟨j + 1, by omega, by go_num, HN, Lib.hid (Words.below_drewN HV.out _)⟩
            case measure => simp [intOf]; omega
        · obtain rfl : j = k := by omega
          have HFT : Hid (firstB l j = true) := Lib.hid (HFI.out.2 (fun m hm => HU.out m hm (by omega)))
          have HNF : Hid (mayB ⟨nm, kd, ch, sc, di, mn, st⟩ = false → r = false) := Lib.hid (fun h => HNO.out (by rw [h]; simp))
          have HST : Hid (mayB ⟨nm, kd, ch, sc, di, mn, st⟩ = true → okTo l (j + 1) = true) := Lib.hid (fun h => by rw [HS.out, HFT.out, h]; rfl)
          obtain ⟨p0, p1, p2, p3, p4, p5, p6⟩ := blk7 BF2.out
          have BFK := Lib.hid BF2.out
          clear HS HNO HFI HU HFT BF BF2 BA BA3 HK
          have hr : (r0 = true ∧ Ana.errOf r0 = 0) ∨ (r0 = false ∧ Ana.errOf r0 = 60) := by cases r0 <;> simp [Ana.errOf]
          rcases kind_ways kd with rfl | rfl | rfl | rfl | rfl | ⟨e1, e2, e3, e4, e5, n1, n4, n5, k1, k2, k3, k4, k5⟩
          · have BG := Lib.hid (show Blk _ _ _ _ from BFK.out)
            rcases hr with ⟨rfl, he⟩ | ⟨rfl, he⟩
            rotate_left
            · have HN : Hid (r = false) := Lib.hid (HNF.out (by rw [HQ.out]; simp_all <;> omega))
              clear HQ HNF HST
              go_wp2_with fail
              refine (HC.out _ HWV.out).mono ?_
              rintro e W2 ⟨rfl, b2⟩
              have HV2 := Lib.hid (HV.out.trans (b2.mono HV.out.size))
              have HB3 := Lib.hid (HB2.out.trans (b2.mono HB2.out.size))
              obtain ⟨q0, q1, q2, q3, q4, q5, q6⟩ := blk7 (BG.out.below b2 BG.out.lt)
              rw [he]
              clear b2 p0 p1 p2 p3 p4 p5 p6
              go_wp2_with fail
              go_ret
              rw [HN.out]
              exact ⟨rfl, HWW.out.trans (HB3.out.mono HWW.out.size)⟩
            have hnn : ((n : Int) != (n : Int)) = false := by simp
            rcases sgn_ways sc with rfl | ⟨s0, s1, s2⟩ | ⟨s0, s1, s2, s3, s4⟩
            rotate_left
            · have HN : Hid (r = false) := Lib.hid (HNF.out (by rw [HQ.out]; simp_all <;> omega))
              clear HQ HNF HST
              go_wp2_with fail
              refine (HC.out _ HWV.out).mono ?_
              rintro e W2 ⟨rfl, b2⟩
              have HV2 := Lib.hid (HV.out.trans (b2.mono HV.out.size))
              have HB3 := Lib.hid (HB2.out.trans (b2.mono HB2.out.size))
              obtain ⟨q0, q1, q2, q3, q4, q5, q6⟩ := blk7 (BG.out.below b2 BG.out.lt)
              rw [he]
              clear b2 p0 p1 p2 p3 p4 p5 p6
              go_wp2_with fail
              go_ret
              rw [HN.out]
              exact ⟨rfl, HWW.out.trans (HB3.out.mono HWW.out.size)⟩
            · have HN : Hid (r = false) := Lib.hid (HNF.out (by rw [HQ.out]; simp_all <;> omega))
              clear HQ HNF HST
              go_wp2_with fail
              refine (HC.out _ HWV.out).mono ?_
              rintro e W2 ⟨rfl, b2⟩
              have HV2 := Lib.hid (HV.out.trans (b2.mono HV.out.size))
              have HB3 := Lib.hid (HB2.out.trans (b2.mono HB2.out.size))
              obtain ⟨q0, q1, q2, q3, q4, q5, q6⟩ := blk7 (BG.out.below b2 BG.out.lt)
              rw [he]
              clear b2 p0 p1 p2 p3 p4 p5 p6
              go_wp2_with fail
              go_ret
              rw [HN.out]
              exact ⟨rfl, HWW.out.trans (HB3.out.mono HWW.out.size)⟩
            rcases zero_ways di with rfl | ⟨d0, d1, d2⟩
            rotate_left
            · have HN : Hid (r = false) := Lib.hid (HNF.out (by rw [HQ.out]; simp_all <;> omega))
              clear HQ HNF HST
              go_wp2_with fail
              refine (HC.out _ HWV.out).mono ?_
              rintro e W2 ⟨rfl, b2⟩
              have HV2 := Lib.hid (HV.out.trans (b2.mono HV.out.size))
              have HB3 := Lib.hid (HB2.out.trans (b2.mono HB2.out.size))
              obtain ⟨q0, q1, q2, q3, q4, q5, q6⟩ := blk7 (BG.out.below b2 BG.out.lt)
              rw [he]
              clear b2 p0 p1 p2 p3 p4 p5 p6
              go_wp2_with fail
              go_ret
              rw [HN.out]
              exact ⟨rfl, HWW.out.trans (HB3.out.mono HWW.out.size)⟩
            · have HT := Lib.hid (HST.out (by rw [HQ.out]; simp_all <;> omega))
              clear HQ HNF HST
              go_wp2_with fail
              refine (HC.out _ HWV.out).mono ?_
              rintro e W2 ⟨rfl, b2⟩
              have HV2 := Lib.hid (HV.out.trans (b2.mono HV.out.size))
              have HB3 := Lib.hid (HB2.out.trans (b2.mono HB2.out.size))
              obtain ⟨q0, q1, q2, q3, q4, q5, q6⟩ := blk7 (BG.out.below b2 BG.out.lt)
              rw [he]
              clear b2 p0 p1 p2 p3 p4 p5 p6
              go_wp2_with fail
              go_roundw
              case rel => exact ⟨j + 1, by omega, by go_num, HT, Lib.hid (HW.out.trans (HB3.out.mono HW.out.size))⟩
              case measure => simp [intOf]; omega
          · skip
            rcases len_ways n with rfl | ⟨c0, c1, c2⟩
            rotate_left
            · have HN : Hid (r = false) := Lib.hid (HNF.out (by rw [HQ.out]; simp_all <;> omega))
              clear HQ HNF HST
              go_wp2_with fail
              go_ret
              rw [HN.out]
              exact ⟨rfl, HWW.out.trans (HB2.out.mono HWW.out.size)⟩
            rcases sgn_ways sc with rfl | ⟨s0, s1, s2⟩ | ⟨s0, s1, s2, s3, s4⟩
            rotate_left
            · have HN : Hid (r = false) := Lib.hid (HNF.out (by rw [HQ.out]; simp_all <;> omega))
              clear HQ HNF HST
              go_wp2_with fail
              go_ret
              rw [HN.out]
              exact ⟨rfl, HWW.out.trans (HB2.out.mono HWW.out.size)⟩
            · have HN : Hid (r = false) := Lib.hid (HNF.out (by rw [HQ.out]; simp_all <;> omega))
              clear HQ HNF HST
              go_wp2_with fail
              go_ret
              rw [HN.out]
              exact ⟨rfl, HWW.out.trans (HB2.out.mono HWW.out.size)⟩
            rcases zero_ways di with rfl | ⟨d0, d1, d2⟩
            rotate_left
            · have HN : Hid (r = false) := Lib.hid (HNF.out (by rw [HQ.out]; simp_all <;> omega))
              clear HQ HNF HST
              go_wp2_with fail
              go_ret
              rw [HN.out]
              exact ⟨rfl, HWW.out.trans (HB2.out.mono HWW.out.size)⟩
            · have HT := Lib.hid (HST.out (by rw [HQ.out]; simp_all <;> omega))
              clear HQ HNF HST
              go_wp2_with fail
              go_roundw
              case rel => exact ⟨j + 1, by omega, by go_num, HT, Lib.hid (HW.out.trans (HB2.out.mono HW.out.size))⟩
              case measure => simp [intOf]; omega
          · skip
            rcases len_ways n with rfl | ⟨c0, c1, c2⟩
            rotate_left
            · have HN : Hid (r = false) := Lib.hid (HNF.out (by rw [HQ.out]; simp_all <;> omega))
              clear HQ HNF HST
              go_wp2_with fail
              go_ret
              rw [HN.out]
              exact ⟨rfl, HWW.out.trans (HB2.out.mono HWW.out.size)⟩
            rcases sgn_ways sc with rfl | ⟨s0, s1, s2⟩ | ⟨s0, s1, s2, s3, s4⟩
            rotate_left
            · have HN : Hid (r = false) := Lib.hid (HNF.out (by rw [HQ.out]; simp_all <;> omega))
              clear HQ HNF HST
              go_wp2_with fail
              go_ret
              rw [HN.out]
              exact ⟨rfl, HWW.out.trans (HB2.out.mono HWW.out.size)⟩
            · have HN : Hid (r = false) := Lib.hid (HNF.out (by rw [HQ.out]; simp_all <;> omega))
              clear HQ HNF HST
              go_wp2_with fail
              go_ret
              rw [HN.out]
              exact ⟨rfl, HWW.out.trans (HB2.out.mono HWW.out.size)⟩
            rcases zero_ways di with rfl | ⟨d0, d1, d2⟩
            rotate_left
            · have HN : Hid (r = false) := Lib.hid (HNF.out (by rw [HQ.out]; simp_all <;> omega))
              clear HQ HNF HST
              go_wp2_with fail
              go_ret
              rw [HN.out]
              exact ⟨rfl, HWW.out.trans (HB2.out.mono HWW.out.size)⟩
            · have HT := Lib.hid (HST.out (by rw [HQ.out]; simp_all <;> omega))
              clear HQ HNF HST
              go_wp2_with fail
              go_roundw
              case rel => exact ⟨j + 1, by omega, by go_num, HT, Lib.hid (HW.out.trans (HB2.out.mono HW.out.size))⟩
              case measure => simp [intOf]; omega
          · skip
            rcases len_ways n with rfl | ⟨c0, c1, c2⟩
            rotate_left
            · have HN : Hid (r = false) := Lib.hid (HNF.out (by rw [HQ.out]; simp_all <;> omega))
              clear HQ HNF HST
              go_wp2_with fail
              go_ret
              rw [HN.out]
              exact ⟨rfl, HWW.out.trans (HB2.out.mono HWW.out.size)⟩
            rcases nine_ways sc with ⟨s0, s1⟩ | ⟨s0, s1, s2, s3⟩ | ⟨s0, s1, s2, s3, s4, s5⟩
            · have HN : Hid (r = false) := Lib.hid (HNF.out (by rw [HQ.out]; simp_all <;> omega))
              clear HQ HNF HST
              go_wp2_with fail
              go_ret
              rw [HN.out]
              exact ⟨rfl, HWW.out.trans (HB2.out.mono HWW.out.size)⟩
            · have HN : Hid (r = false) := Lib.hid (HNF.out (by rw [HQ.out]; simp_all <;> omega))
              clear HQ HNF HST
              go_wp2_with fail
              go_ret
              rw [HN.out]
              exact ⟨rfl, HWW.out.trans (HB2.out.mono HWW.out.size)⟩
            rcases zero_ways di with rfl | ⟨d0, d1, d2⟩
            rotate_left
            · have HN : Hid (r = false) := Lib.hid (HNF.out (by rw [HQ.out]; simp_all <;> omega))
              clear HQ HNF HST
              go_wp2_with fail
              go_ret
              rw [HN.out]
              exact ⟨rfl, HWW.out.trans (HB2.out.mono HWW.out.size)⟩
            · have HT := Lib.hid (HST.out (by rw [HQ.out]; simp_all <;> omega))
              clear HQ HNF HST
              go_wp2_with fail
              go_roundw
              case rel => exact ⟨j + 1, by omega, by go_num, HT, Lib.hid (HW.out.trans (HB2.out.mono HW.out.size))⟩
              case measure => simp [intOf]; omega
          · skip
            rcases four_ways di with ⟨s0, s1⟩ | ⟨s0, s1, s2, s3⟩ | ⟨s0, s1, s2, s3, s4, s5, s6⟩
            · have HN : Hid (r = false) := Lib.hid (HNF.out (by rw [HQ.out]; simp_all <;> omega))
              clear HQ HNF HST
              go_wp2_with fail
              go_ret
              rw [HN.out]
              exact ⟨rfl, HWW.out.trans (HB2.out.mono HWW.out.size)⟩
            · have HN : Hid (r = false) := Lib.hid (HNF.out (by rw [HQ.out]; simp_all <;> omega))
              clear HQ HNF HST
              go_wp2_with fail
              go_ret
              rw [HN.out]
              exact ⟨rfl, HWW.out.trans (HB2.out.mono HWW.out.size)⟩
            rcases len_ways n with rfl | ⟨c0, c1, c2⟩
            rotate_left
            · have HN : Hid (r = false) := Lib.hid (HNF.out (by rw [HQ.out]; simp_all <;> omega))
              clear HQ HNF HST
              go_wp2_with fail
              go_ret
              rw [HN.out]
              exact ⟨rfl, HWW.out.trans (HB2.out.mono HWW.out.size)⟩
            rcases sgn_ways sc with rfl | ⟨t0, t1, t2⟩ | ⟨t0, t1, t2, t3, t4⟩
            rotate_left
            · have HN : Hid (r = false) := Lib.hid (HNF.out (by rw [HQ.out]; simp_all <;> omega))
              clear HQ HNF HST
              go_wp2_with fail
              go_ret
              rw [HN.out]
              exact ⟨rfl, HWW.out.trans (HB2.out.mono HWW.out.size)⟩
            · have HN : Hid (r = false) := Lib.hid (HNF.out (by rw [HQ.out]; simp_all <;> omega))
              clear HQ HNF HST
              go_wp2_with fail
              go_ret
              rw [HN.out]
              exact ⟨rfl, HWW.out.trans (HB2.out.mono HWW.out.size)⟩
            · have HT := Lib.hid (HST.out (by rw [HQ.out]; simp_all <;> omega))
              clear HQ HNF HST
              go_wp2_with fail
              go_roundw
              case rel => exact ⟨j + 1, by omega, by go_num, HT, Lib.hid (HW.out.trans (HB2.out.mono HW.out.size))⟩
              case measure => simp [intOf]; omega
          · skip
            · have HN : Hid (r = false) := Lib.hid (HNF.out (by rw [HQ.out]; simp_all <;> omega))
              clear HQ HNF HST
              go_wp2_with fail
              go_ret
              rw [HN.out]
              exact ⟨rfl, HWW.out.trans (HB2.out.mono HWW.out.size)⟩
    · obtain rfl : k = l.length := by omega
      have HT : Hid (r = true) := Lib.hid (by rw [HRQ.out, HK.out])
      go_wp2_with fail
      go_ret
      rw [HT.out]
      exact ⟨rfl, HWW.out⟩
end Go.Proofs.YtfckomjbgopmaaaGreatDoor.Sch
