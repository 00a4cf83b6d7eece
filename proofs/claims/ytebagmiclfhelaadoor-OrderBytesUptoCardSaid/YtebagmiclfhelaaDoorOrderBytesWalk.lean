/- The walk of OrderBytes. -/
import Derived.Test.YtebagmiclfhelaaDoorOrdAwake2
import Derived.Test.YtebagmiclfhelaaDoorOrdKeys
import Derived.Test.YtebagmiclfhelaaDoorOrdRows
set_option linter.unusedVariables false
namespace Go.Proofs.YtebagmiclfhelaaDoor.OrderBytesWalk
open Go.RowKit Go.Lib OrdP Kit OrdRef OrdLib Words Owned

theorem keyB_len (k : KeyD) : (keyB k).length ≤ 9 + 2 * k.text.size := by
  unfold keyB
  by_cases h1 : k.kind = 1
  · rw [if_pos h1, List.length_cons, be8_len]; omega
  · rw [if_neg h1]
    by_cases h2 : k.kind = 2
    · rw [if_pos h2, List.length_cons]
      have := escL_len k.text.data.toList
      have e : k.text.data.toList.length = k.text.size := by simp
      omega
    · rw [if_neg h2]; simp; omega
theorem rowB_len : ∀ ks : List KeyD, (rowB ks).length ≤ 9 * ks.length + 2 * sumT ks
  | [] => by simp [rowB]
  | k :: l => by
    rw [rowB, List.length_append, List.length_cons, sumT]
    have := keyB_len k
    have := rowB_len l
    omega
theorem clip_reads {w : World} {B : Nat} {v : Value} {ks : List KeyD} (h : ClipRow w B v ks) : ∃ ao, v = .slice ao ks.length ks.length ∧ Reads w w.heap.size 3 ao ks.length (keyCells ks) := by
  rcases h with ⟨rfl, rfl⟩ | ⟨g, cur, rfl, hB, hg, hs, ht⟩
  · exact ⟨none, rfl, Reads.none_⟩
  · refine ⟨_, rfl, keyCells_length ks, fun _ => ⟨_, rfl, hg.lt, fun j u hu => ?_⟩⟩
    have hj : j < ks.length * 3 := by rw [← keyCells_length]; exact (List.getElem?_eq_some_iff.1 hu).1
    have hadd : (⟨g, 0, none⟩ : Addr).add j = ⟨g, j, none⟩ := by unfold Addr.add; split <;> simp_all
    rw [hadd, hg.cell, ← hu, ← ht, List.getElem?_take_of_lt hj, Array.getElem?_toList]

theorem extract_list (T : ByteArray) (n : Nat) : (T.extract 0 n).toList = T.data.toList.take n := by
  rw [ByteArray.toList_eq, ByteArray.data_extract, Array.toList_extract, List.extract_eq_take_drop]
  simp
theorem take_self (T : ByteArray) : T.data.toList.take T.size = T.data.toList := List.take_of_length_le (Nat.le_of_eq (show T.data.toList.length = T.size by simp))
theorem take_len (S T : ByteArray) : T.data.toList.take S.data.toList.length = T.data.toList.take S.size := by rw [show S.data.toList.length = S.size by simp]

set_option maxRecDepth 100000 in
set_option maxHeartbeats 4000000 in
theorem walk (ao bo : Option Addr) (c d : Nat) (xs ys : List KeyD) (w : World) (ha : Reads w w.heap.size 3 ao xs.length (keyCells xs)) (hb : Reads w w.heap.size 3 bo ys.length (keyCells ys)) (hxs : 4 * xs.length + sumT xs ≤ 1048576) (hys : 4 * ys.length + sumT ys ≤ 1048576) (hxr : ∀ k ∈ xs, inR k) (hyr : ∀ k ∈ ys, inR k) (hT : OTabs w) :
    Calls Tryd.prog 8 #[.slice ao xs.length c, .slice bo ys.length d] w (BoolB true w) := by
  have hlx := rowB_len xs
  have hly := rowB_len ys
  obtain ⟨S, hS⟩ : ∃ S, str (rowB xs) = S := ⟨_, rfl⟩
  obtain ⟨T, hTT⟩ : ∃ T, str (rowB ys) = T := ⟨_, rfl⟩
  have CA : ∀ W, Below w.heap.size w W → ∀ c, Calls Tryd.prog 18 #[.slice ao xs.length c] W (fun e w' => e = .returned (.tuple #[.string (if xs.all rightF then S else ⟨#[]⟩), .int .i64 (if xs.all rightF then 0 else 1)]) ∧ Below W.heap.size W w') := by
    intro W hb c
    refine (bytes_any ao c xs W ((ha.below hb).more hb.size) (by omega) (by omega)).mono ?_
    rintro e w2 ⟨h1, h2⟩
    refine ⟨?_, h2⟩
    rw [← hS]
    cases hr : xs.all rightF with
    | true => rw [hr, if_pos rfl] at h1; rw [h1]; rfl
    | false => rw [hr, if_neg (by decide)] at h1; rw [h1]; rfl
  have CB : ∀ W, Below w.heap.size w W → ∀ c, Calls Tryd.prog 18 #[.slice bo ys.length c] W (fun e w' => e = .returned (.tuple #[.string (if ys.all rightF then T else ⟨#[]⟩), .int .i64 (if ys.all rightF then 0 else 1)]) ∧ Below W.heap.size W w') := by
    intro W hb' c
    refine (bytes_any bo c ys W ((hb.below hb').more hb'.size) (by omega) (by omega)).mono ?_
    rintro e w2 ⟨h1, h2⟩
    refine ⟨?_, h2⟩
    rw [← hTT]
    cases hr : ys.all rightF with
    | true => rw [hr, if_pos rfl] at h1; rw [h1]; rfl
    | false => rw [hr, if_neg (by decide)] at h1; rw [h1]; rfl
  have HA := Lib.hid ha; have HB := Lib.hid hb; have DA := Lib.hid CA; have DB := Lib.hid CB; have HT := Lib.hid hT
  have HX := Lib.hid hxs; have HY := Lib.hid hys; have XR := Lib.hid hxr; have YR := Lib.hid hyr; have LX := Lib.hid hlx; have HSS := Lib.hid hS; have HTT := Lib.hid hTT
  have hzx : xs.length ≤ 1048576 := by omega
  have hzy : ys.length ≤ 1048576 := by omega
  clear ha hb CA CB hT hxs hys hxr hyr hlx hly hS hTT
  obtain ⟨rx, hrx⟩ : ∃ r, xs.all rightF = r := ⟨_, rfl⟩
  obtain ⟨ry, hry⟩ : ∃ r, ys.all rightF = r := ⟨_, rfl⟩
  rw [hrx] at DA
  rw [hry] at DB
  have RX := Lib.hid hrx; have RY := Lib.hid hry
  clear hrx hry
  obtain ⟨S', hS'⟩ : ∃ S', (if rx then S else ⟨#[]⟩) = S' := ⟨_, rfl⟩
  obtain ⟨T', hT'⟩ : ∃ T', (if ry then T else ⟨#[]⟩) = T' := ⟨_, rfl⟩
  obtain ⟨e1, he1⟩ : ∃ e : Int, (if rx then (0 : Int) else 1) = e := ⟨_, rfl⟩
  obtain ⟨f1, hf1⟩ : ∃ e : Int, (if ry then (0 : Int) else 1) = e := ⟨_, rfl⟩
  rw [hS', he1] at DA
  rw [hT', hf1] at DB
  have HS' := Lib.hid hS'; have HT' := Lib.hid hT'; have HE1 := Lib.hid he1; have HF1 := Lib.hid hf1
  clear hS' hT' he1 hf1
  go_enter Tryd.func8, Tryd.ntmps8
  go_wp2_with fail
  refine (DA.out w (Below.refl _ _) c).mono ?_
  rintro e w1 ⟨rfl, b1⟩
  have B1 := Lib.hid b1; clear b1
  go_wp2_with fail
  refine (DB.out w1 B1.out d).mono ?_
  rintro e w2 ⟨rfl, b2⟩
  have B2 := Lib.hid (B1.out.trans (b2.mono B1.out.size)); clear b2
  go_wp2_with fail
  go_loopw [9, 10] (fun q i wr => ∃ (k : Nat) (b : Bool), k ≤ xs.length ∧ i = .int .i64 k ∧ q = .bool b ∧ Hid ((xs.take k).all rightF = b) ∧ Hid (Below w.heap.size w wr)) (fun _ i _ => xs.length - (intOf i).toNat)
  case atStart => exact ⟨0, true, by omega, rfl, rfl, Lib.hid (by simp), B2⟩
  case round =>
    obtain ⟨k, b, hk, rfl, rfl, HK, BW⟩ := hrel
    by_cases hlt : k < xs.length
    · have HST : Hid ((xs.take (k + 1)).all rightF = (b && rightF xs[k])) := Lib.hid (by rw [List.take_succ_eq_append_getElem hlt, List.all_append, HK.out]; simp)
      cases b with
      | false =>
        have HS2 : Hid ((xs.take (k + 1)).all rightF = false) := Lib.hid (by rw [HST.out]; rfl)
        clear HST
        go_wp2_with fail
        go_roundw
        case rel => exact ⟨k + 1, false, by omega, by go_num, rfl, HS2, BW⟩
        case measure => simp [intOf]; omega
      | true =>
        obtain ⟨ad, rfl, hba, a0, a1, a2⟩ := reads_key HA.out hlt
        rw [← BW.out.cell (by rw [block_of_add]; exact hba)] at a0
        rw [← BW.out.cell (by show (ad.add (k * 3)).block < _; rw [block_of_add]; exact hba)] at a1 a2
        have hC : ∀ W, Calls Tryd.prog 22 #[xs[k].v] W (BoolB (rightF xs[k]) W) := fun W => right_any xs[k] W
        generalize xs[k] = x at *
        obtain ⟨rb, hrb⟩ : ∃ r, rightF x = r := ⟨_, rfl⟩
        rw [hrb] at hC HST
        clear hrb
        obtain ⟨k1, n1, t1⟩ := x
        unfold KeyD.v at hC
        dsimp only at a0 a1 a2 hC
        have HC := Lib.hid hC
        clear hC
        have HS2 : Hid ((xs.take (k + 1)).all rightF = rb) := Lib.hid (by rw [HST.out]; simp)
        clear HST
        go_wp2_with fail
        refine (HC.out _).mono ?_
        rintro e W ⟨rfl, bW⟩
        have BW2 : Hid (Below w.heap.size w W) := Lib.hid (BW.out.trans (bW.mono BW.out.size))
        clear bW a0 a1 a2
        go_wp2_with fail
        go_roundw
        case rel => exact ⟨k + 1, rb, by omega, by go_num, rfl, HS2, BW2⟩
        case measure => simp [intOf]; omega
    · obtain rfl : k = xs.length := by omega
      have hbx : b = rx := by rw [← HK.out, List.take_of_length_le (Nat.le_refl _)]; exact RX.out
      subst hbx
      cases b with
      | false =>
        obtain rfl : e1 = 1 := HE1.out.symm
        go_wp2_with fail
        refine (awake_any _ (HT.out.next BW.out)).mono ?_
        rintro e W ⟨rfl, bW⟩
        have BW2 : Hid (Below w.heap.size w W) := Lib.hid (BW.out.trans (bW.mono BW.out.size))
        clear bW
        go_wp2_with fail
        go_ret
        exact ⟨ret_bool (by simp), BW2.out⟩
      | true =>
        obtain rfl : e1 = 0 := HE1.out.symm
        obtain rfl : S = S' := HS'.out
        cases ry with
        | false =>
          obtain rfl : f1 = 1 := HF1.out.symm
          go_wp2_with fail
          refine (awake_any _ (HT.out.next BW.out)).mono ?_
          rintro e W ⟨rfl, bW⟩
          have BW2 : Hid (Below w.heap.size w W) := Lib.hid (BW.out.trans (bW.mono BW.out.size))
          clear bW
          go_wp2_with fail
          go_ret
          exact ⟨ret_bool (by simp), BW2.out⟩
        | true =>
          obtain rfl : f1 = 0 := HF1.out.symm
          obtain rfl : T = T' := HT'.out
          clear DA DB HK HE1 HF1 HS' HT'
          have HCK : Hid (∀ W, Calls Tryd.prog 19 #[.string S] W (fun e w' => ∃ lo, e = .returned (.tuple #[.slice lo xs.length xs.length, .int .i64 0]) ∧ Reads w' w'.heap.size 3 lo xs.length (keyCells xs) ∧ Below W.heap.size W w')) := Lib.hid (fun W => by
            rw [← HSS.out]
            refine (keys_any (rowB xs) (by have := LX.out; have := HX.out; omega) W).mono ?_
            rintro e w' ⟨h1, h2⟩
            rw [keysF_rowB xs RX.out XR.out] at h2
            obtain ⟨v, rfl, hv⟩ := h2
            obtain ⟨lo, rfl, hr⟩ := clip_reads hv
            exact ⟨lo, rfl, hr, h1⟩)
          have HSG : Hid (cmpB S.data.toList T.data.toList = rowsF xs ys) := Lib.hid (by rw [← HSS.out, ← HTT.out]; exact cmp_rows xs ys RX.out RY.out XR.out YR.out)
          go_wp2_with fail
          refine (HCK.out _).mono ?_
          rintro e w3 ⟨lo, rfl, hl, b3⟩
          have B3 := Lib.hid (BW.out.trans (b3.mono BW.out.size))
          have HL := Lib.hid hl
          clear hl b3
          go_wp2_with fail
          refine (keysEq_any lo ao xs.length c xs xs w3 HL.out ((HA.out.below B3.out).more B3.out.size) (by omega) (by omega) true (by simp)).mono ?_
          rintro e w4 ⟨rfl, b4⟩
          have B4 := Lib.hid (B3.out.trans (b4.mono B3.out.size))
          clear b4
          go_wp2_with fail
          refine (sign_any S T w4).mono ?_
          rintro e w5 ⟨rfl, b5⟩
          have B5 := Lib.hid (B4.out.trans (b5.mono B4.out.size))
          clear b5
          rw [HSG.out]
          obtain ⟨R, hR⟩ : ∃ R, rowsF xs ys = R := ⟨_, rfl⟩
          rw [hR]
          have HCR : Hid (∀ W, Below w.heap.size w W → Calls Tryd.prog 26 #[.slice ao xs.length c, .slice bo ys.length d] W (IntB R W)) := Lib.hid (fun W h => by
            rw [← hR]
            exact rows_any ao bo c d xs ys W ((HA.out.below h).more h.size) ((HB.out.below h).more h.size) (by omega) (by omega))
          clear hR
          go_wp2_with fail
          refine (HCR.out w5 B5.out).mono ?_
          rintro e w6 ⟨rfl, b6⟩
          have B6 := Lib.hid (B5.out.trans (b6.mono B5.out.size))
          clear b6
          have HBG : Hid (xs.length = ys.length → ((T.data.toList.take S.data.toList.length = S.data.toList) ↔ xs = ys)) := Lib.hid (fun h => by
            rw [← HSS.out, ← HTT.out]
            exact begins_rows xs ys RX.out RY.out XR.out YR.out h)
          go_upto_region 15 with fail
          by_cases hl : xs.length = ys.length
          · have hn : ((xs.length : Int) != (ys.length : Int)) = false := by rw [hl]; simp
            have hbg := HBG.out hl
            clear hl
            by_cases he : xs = ys
            · have hst : S = T := by rw [← HSS.out, ← HTT.out, he]
              have HRR : Hid (∀ W, Below w.heap.size w W → Calls Tryd.prog 28 #[.slice ao xs.length c, .slice bo ys.length d] W (BoolB true W)) := Lib.hid (fun W h => keysEq_any ao bo c d xs ys W ((HA.out.below h).more h.size) ((HB.out.below h).more h.size) (by omega) (by omega) true (by simp [he]))
              have hs1 : decide (S.size ≤ T.size) = true := by rw [decide_eq_true_eq, hst]; exact Nat.le_refl _
              have hs2 : ((T.extract 0 S.size).toList == S.toList) = true := by
                rw [beq_iff_eq, hst, extract_list, ByteArray.toList_eq, take_self]
              have hs3 : S.size ≤ T.size := by rw [hst]; exact Nat.le_refl _
              clear hbg he hst
              clear HBG
              go_wp2_with fail
              refine (HRR.out w6 B6.out).mono ?_
              rintro e w7 ⟨rfl, b7⟩
              have B7 := Lib.hid (B6.out.trans (b7.mono B6.out.size))
              clear b7
              go_wp2_with fail
              refine (awake_any _ (HT.out.next B7.out)).mono ?_
              rintro e W ⟨rfl, bW⟩
              have BW2 : Hid (Below w.heap.size w W) := Lib.hid (B7.out.trans (bW.mono B7.out.size))
              clear bW
              go_wp2_with fail
              go_ret
              exact ⟨ret_bool (by simp), BW2.out⟩
            · have HRR : Hid (∀ W, Below w.heap.size w W → Calls Tryd.prog 28 #[.slice ao xs.length c, .slice bo ys.length d] W (BoolB false W)) := Lib.hid (fun W h => keysEq_any ao bo c d xs ys W ((HA.out.below h).more h.size) ((HB.out.below h).more h.size) (by omega) (by omega) false (by simp [he]))
              by_cases hs3 : S.size ≤ T.size
              · have hs1 : decide (S.size ≤ T.size) = true := by rw [decide_eq_true_eq]; exact hs3
                have hs2 : ((T.extract 0 S.size).toList == S.toList) = false := by
                  rw [beq_eq_false_iff_ne, extract_list, ByteArray.toList_eq]
                  intro h
                  apply he
                  rw [← hbg, take_len]
                  exact h
                clear hbg he
                clear HBG
                go_wp2_with fail
                refine (HRR.out w6 B6.out).mono ?_
                rintro e w7 ⟨rfl, b7⟩
                have B7 := Lib.hid (B6.out.trans (b7.mono B6.out.size))
                clear b7
                go_wp2_with fail
                refine (awake_any _ (HT.out.next B7.out)).mono ?_
                rintro e W ⟨rfl, bW⟩
                have BW2 : Hid (Below w.heap.size w W) := Lib.hid (B7.out.trans (bW.mono B7.out.size))
                clear bW
                go_wp2_with fail
                go_ret
                exact ⟨ret_bool (by simp), BW2.out⟩
              · have hs1 : decide (S.size ≤ T.size) = false := by rw [decide_eq_false_iff_not]; exact hs3
                clear hbg he
                clear HBG
                go_wp2_with fail
                refine (HRR.out w6 B6.out).mono ?_
                rintro e w7 ⟨rfl, b7⟩
                have B7 := Lib.hid (B6.out.trans (b7.mono B6.out.size))
                clear b7
                go_wp2_with fail
                refine (awake_any _ (HT.out.next B7.out)).mono ?_
                rintro e W ⟨rfl, bW⟩
                have BW2 : Hid (Below w.heap.size w W) := Lib.hid (B7.out.trans (bW.mono B7.out.size))
                clear bW
                go_wp2_with fail
                go_ret
                exact ⟨ret_bool (by simp), BW2.out⟩
          · have hn : ((xs.length : Int) != (ys.length : Int)) = true := by rw [bne_iff_ne]; omega
            clear hl HBG
            by_cases hs3 : S.size ≤ T.size
            · have hs1 : decide (S.size ≤ T.size) = true := by rw [decide_eq_true_eq]; exact hs3
              cases hs2 : ((T.extract 0 S.size).toList == S.toList) with
              | true =>
                go_wp2_with fail
                refine (awake_any _ (HT.out.next B6.out)).mono ?_
                rintro e W ⟨rfl, bW⟩
                have BW2 : Hid (Below w.heap.size w W) := Lib.hid (B6.out.trans (bW.mono B6.out.size))
                clear bW
                go_wp2_with fail
                go_ret
                exact ⟨ret_bool (by simp), BW2.out⟩
              | false =>
                go_wp2_with fail
                refine (awake_any _ (HT.out.next B6.out)).mono ?_
                rintro e W ⟨rfl, bW⟩
                have BW2 : Hid (Below w.heap.size w W) := Lib.hid (B6.out.trans (bW.mono B6.out.size))
                clear bW
                go_wp2_with fail
                go_ret
                exact ⟨ret_bool (by simp), BW2.out⟩
            · have hs1 : decide (S.size ≤ T.size) = false := by rw [decide_eq_false_iff_not]; exact hs3
              go_wp2_with fail
              refine (awake_any _ (HT.out.next B6.out)).mono ?_
              rintro e W ⟨rfl, bW⟩
              have BW2 : Hid (Below w.heap.size w W) := Lib.hid (B6.out.trans (bW.mono B6.out.size))
              clear bW
              go_wp2_with fail
              go_ret
              exact ⟨ret_bool (by simp), BW2.out⟩
end Go.Proofs.YtebagmiclfhelaaDoor.OrderBytesWalk
