/- Contract: the document's whole run. -/
import Derived.Test.YtinmiekbhoemjaaGreatDoorPack35
import Derived.Test.YtinmiekbhoemjaaGreatDoorAnaRefToks
set_option linter.unusedVariables false
namespace Go.Proofs.YtinmiekbhoemjaaGreatDoor.Ana
open Go.RowKit Go.Lib FoldP FoldInts Kit FoldForms FoldNext AnaP Words Owned Tree

theorem refToks_any (n : Int) (h1 : 1 ≤ n) (h4 : n ≤ 4) (s : ByteArray) (w : World) (hs : s.size ≤ 4096) : Calls Tryz.prog 56 #[.int .i64 n, .string s] w (OwnToks (tokensF n s) w) := by
  rcases (show n = 1 ∨ n = 2 ∨ n = 3 ∨ n = 4 by omega) with rfl | rfl | rfl | rfl
  · exact refToks_1 s w (by omega)
  · exact refToks_2 s w (by omega)
  · exact refToks_3 s w (by omega)
  · exact refToks_4 s w (by omega)
set_option maxRecDepth 100000 in
set_option maxHeartbeats 1000000 in
theorem refRun_bad (ao : Option Addr) (n c : Nat) (l : List Int) (s : ByteArray) (w : World) (hn : n = l.length) (hk : Reads w w.heap.size 1 ao n (intCells l)) (hc : n ≤ c) (hm : c ≤ maxLen) (h : checkB l = false) :
    Calls Tryz.prog 42 #[.slice ao n c, .string s] w (RunRet (runF l s) w) := by
  have HC := Lib.hid (refCheck_any ao n c l w hn hk (Nat.le_trans hc hm))
  rw [h] at HC
  have HR : Hid (runF l s = ([], 60)) := Lib.hid (by unfold runF; rw [if_pos h])
  rw [HR.out]
  clear hk hn h
  go_enter Tryz.func42, Tryz.ntmps42
  go_wp2_with fail
  refine HC.out.mono ?_
  rintro e w1 ⟨rfl, b1⟩
  have HB := Lib.hid b1; clear b1
  go_wp2_with fail
  go_ret2
  exact runRet_none rfl HB.out
set_option maxRecDepth 100000 in
set_option maxHeartbeats 1000000 in
theorem refRun_long (ao : Option Addr) (n c : Nat) (l : List Int) (s : ByteArray) (w : World) (hn : n = l.length) (hk : Reads w w.heap.size 1 ao n (intCells l)) (hc : n ≤ c) (hm : c ≤ maxLen) (h : checkB l = true) (hs : 4096 < s.size) (hs2 : s.size ≤ 9223372036854775807) :
    Calls Tryz.prog 42 #[.slice ao n c, .string s] w (RunRet (runF l s) w) := by
  have HC := Lib.hid (refCheck_any ao n c l w hn hk (Nat.le_trans hc hm))
  rw [h] at HC
  have HR : Hid (runF l s = ([], 3)) := Lib.hid (by unfold runF; rw [h, if_neg (by decide), if_pos hs])
  have h1 : decide ((4096 : Int) < s.size) = true := by rw [decide_eq_true_iff]; omega
  rw [HR.out]
  clear hk hn h
  go_enter Tryz.func42, Tryz.ntmps42
  go_wp2_with fail
  refine HC.out.mono ?_
  rintro e w1 ⟨rfl, b1⟩
  have HB := Lib.hid b1; clear b1
  go_wp2_with fail
  go_ret2
  exact runRet_none rfl HB.out
set_option maxRecDepth 100000 in
set_option maxHeartbeats 2000000 in
theorem refRun_go (ad : Addr) (c : Nat) (a : Int) (T : List Int) (s : ByteArray) (w : World) (hk : Reads w w.heap.size 1 (some ad) (T.length + 1) (intCells (a :: T))) (hc : T.length + 1 ≤ c) (hm : c ≤ maxLen) (h : checkB (a :: T) = true) (hs : s.size ≤ 4096)  :
    Calls Tryz.prog 42 #[.slice (some ad) (T.length + 1) c, .string s] w (RunRet (runF (a :: T) s) w) := by
  have HC := Lib.hid (refCheck_any (some ad) (T.length + 1) c (a :: T) w rfl hk (Nat.le_trans hc hm))
  obtain ⟨_, h8, ha1, ha4, hf⟩ := check_filters h
  simp only [List.getD_cons_zero, List.length_cons, List.tail_cons] at ha1 ha4 hf h8
  rw [h] at HC
  have HF := Lib.hid hf
  have hl := tokensF_len a s
  obtain ⟨R, hR⟩ : ∃ R, runF (a :: T) s = R := ⟨_, rfl⟩
  have HR : Hid (linkAll (T.drop 0) (tokensF a s) = R) := Lib.hid (by rw [← hR]; unfold runF; rw [h, if_neg (by decide), if_neg (by omega), if_neg (by simp only [List.getD_cons_zero]; omega)]; rfl)
  rw [hR]
  have HTS : Hid (∀ t ∈ tokensF a s, t.text.size ≤ 4096) := Lib.hid (fun t ht => by have := tokensF_size a s t ht; omega)
  have HTK := Lib.hid (fun W (hW : Below w.heap.size w W) => refToks_any a ha1 ha4 s W hs)
  obtain ⟨ad', e, hba, hcell⟩ := hk.2 (by omega)
  cases e
  have h0 : w.cell? ad = some (.int .i64 a) := hcell 0 _ rfl
  have HCE : Hid (∀ (j : Nat) (v : Int), T[j]? = some v → w.cell? (ad.add (1 + j)) = some (.int .i64 v)) := Lib.hid (fun j v hj => hcell (1 + j) _ (by rw [Nat.add_comm]; simp [intCells, hj]))
  have H0 := Lib.hid h0
  have h40 : decide ((4096 : Int) < s.size) = false := by rw [decide_eq_false_iff_not]; omega
  have h41 : ¬ 4096 < s.size := by omega
  unfold maxLen at hm
  clear hk h hR hf hcell h0
  generalize tokensF a s = ts0 at *
  have h50 : ¬ 4096 < ts0.length := by omega
  have h51 : decide ((4096 : Int) < ts0.length) = false := by rw [decide_eq_false_iff_not]; omega
  obtain ⟨n, hn⟩ : ∃ n, n = T.length + 1 := ⟨_, rfl⟩
  rw [← hn] at HC hc ⊢
  have hn1 : n ≤ T.length + 1 := by omega
  have hn2 : T.length + 1 ≤ n := by omega
  clear hn
  go_enter Tryz.func42, Tryz.ntmps42
  go_wp2_with fail
  refine HC.out.mono ?_
  rintro e w1 ⟨rfl, b1⟩
  have hc0 : w1.cell? ad = some (.int .i64 a) := (b1.cell hba).trans H0.out
  have HB1 := Lib.hid b1; clear b1
  go_wp2_with fail
  refine (HTK.out _ HB1.out).mono ?_
  rintro e w2 ⟨v, rfl, o2, b2⟩
  obtain ⟨aot, ct, rfl⟩ := own_slice2 o2
  have HO2 := Lib.hid (own_base o2 HB1.out.size)
  have HB2 := Lib.hid (HB1.out.trans (b2.mono HB1.out.size))
  clear o2 b2 hc0
  go_wp2_with fail
  go_loopw [7, 8, 9, 10] (fun o i _ _ wq => ∃ (k : Nat) (ts : List TokD) (ao : Option Addr) (co : Nat), k ≤ T.length ∧ ts.length ≤ 4096 ∧ i = .int .i64 ((k + 1 : Nat) : Int) ∧ o = .slice ao ts.length co ∧ Hid (wq.ownsRow w.heap.size 117 4 (.slice ao ts.length co) ts.length (tokCells ts)) ∧ Hid (linkAll (T.drop k) ts = R) ∧ Hid (∀ t ∈ ts, t.text.size ≤ 4096) ∧ Hid (Below w.heap.size w wq)) (fun _ i _ _ _ => T.length + 1 - (RowKit.intOf i).toNat)
  case atStart => exact ⟨0, ts0, aot, ct, by omega, by omega, rfl, rfl, HO2, HR, HTS, HB2⟩
  case round =>
    obtain ⟨k, ts, ao, co, hk, htl, rfl, rfl, HO, HE, HX, HW⟩ := hrel
    have hzr := HW.out.size
    by_cases hlt : k < T.length
    · have hcw : wr.cell? (ad.add (1 + k)) = some (.int .i64 T[k]) := (HW.out.cell (by rw [block_of_add]; exact hba)).trans (HCE.out k T[k] (List.getElem?_eq_getElem hlt))
      have hcw2 : wr.cell? ⟨ad.block, ad.off + (k + 1), none⟩ = some (.int .i64 T[k]) := by rw [Nat.add_comm 1 k, add_pos _ (by omega)] at hcw; exact hcw
      have hd1 : decide ((k : Int) + 1 < (n : Int)) = true := by rw [decide_eq_true_iff]; omega
      have HST := Lib.hid (linkAll_step hlt ts)
      have hfk := HF.out T[k] (List.getElem_mem hlt)
      clear hcw
      generalize T[k] = x at *
      have HL := Lib.hid (fun W (hW : Below w.heap.size w W) hr => refLink_any x hfk ao co ts W hr (by omega) (fun t ht => by have := HX.out t ht; omega))
      have HRD := Lib.hid (Reads.of_own HO.out)
      have HX2 : Hid (∀ ts', linkF x ts = some ts' → ∀ t ∈ ts', t.text.size ≤ 4096) := Lib.hid (fun ts' e => link_all (p := fun t => t.text.size ≤ 4096) (fun t y h1 h2 => by have := one_size x t.text y h2; exact Nat.le_trans this h1) HX.out e)
      have HX3 : Hid (∀ ts', linkF x ts = some ts' → ts'.length ≤ 4096) := Lib.hid (fun ts' e => linkF_len4 e)
      clear hfk
      generalize linkF x ts = LR at *
      go_wp2_with fail
      refine (HL.out wr HW.out HRD.out).mono ?_
      rintro e w3 (⟨rfl, rfl, b3⟩ | ⟨ts', ao', co', rfl, rfl, o3, b3⟩)
      · have HN : Hid (R = ([], 84)) := Lib.hid (by rw [← HE.out, HST.out])
        have HB3 := Lib.hid (HW.out.trans (b3.mono hzr))
        clear b3 hcw2
        go_wp2_with fail
        go_ret2
        rw [HN.out]
        exact runRet_none rfl HB3.out
      · have HN : Hid (linkAll (T.drop (k + 1)) ts' = R) := Lib.hid (by rw [← HE.out, HST.out])
        have HB3 := Lib.hid (HW.out.trans (b3.mono hzr))
        have HO3 := Lib.hid (own_base o3 hzr)
        have htl2 := HX3.out ts' rfl
        have HX4 := Lib.hid (HX2.out ts' rfl)
        clear b3 hcw2 o3
        go_wp2_with fail
        go_roundw
        case rel => exact ⟨k + 1, ts', ao', co', by omega, htl2, by go_num, rfl, HO3, HN, HX4, HB3⟩
        case measure => simp [RowKit.intOf]; omega
    · obtain rfl : k = T.length := by omega
      have HN : Hid (R = (ts, 0)) := Lib.hid (by rw [← HE.out, List.drop_length]; rfl)
      have hd1 : decide ((T.length : Int) + 1 < (n : Int)) = false := by rw [decide_eq_false_iff_not]; omega
      go_wp2_with fail
      go_ret2
      rw [HN.out]
      exact ⟨ao, co, rfl, HO.out, HW.out⟩
/-- THE DOCUMENT'S WHOLE RUN. -/
theorem refRun_any (ao : Option Addr) (n c : Nat) (l : List Int) (s : ByteArray) (w : World) (hn : n = l.length) (hk : Reads w w.heap.size 1 ao n (intCells l)) (hc : n ≤ c) (hm : c ≤ maxLen) (hs : s.size ≤ 9223372036854775807)  :
    Calls Tryz.prog 42 #[.slice ao n c, .string s] w (RunRet (runF l s) w) := by
  cases h : checkB l with
  | false => exact refRun_bad ao n c l s w hn hk hc hm h
  | true =>
    by_cases h4 : s.size ≤ 4096
    · have h1 := (check_filters h).1
      subst hn
      match l, h1 with
      | a :: T, _ =>
        obtain ⟨ad, rfl, _, _⟩ := hk.2 (by simp)
        exact refRun_go ad c a T s w hk hc hm h h4
    · exact refRun_long ao n c l s w hn hk hc hm h (by omega) hs
end Go.Proofs.YtinmiekbhoemjaaGreatDoor.Ana
