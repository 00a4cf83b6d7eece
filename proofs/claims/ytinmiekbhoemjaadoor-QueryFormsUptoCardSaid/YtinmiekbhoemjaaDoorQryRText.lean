/- Contracts: the document's write at any formed query, its Text, Formed. -/
import Derived.Test.YtinmiekbhoemjaaDoorQryRWrite
import Derived.Test.YtinmiekbhoemjaaDoorQryRWrite10
import Derived.Test.YtinmiekbhoemjaaDoorQryRFormed
import Derived.Test.YtinmiekbhoemjaaDoorQryText
set_option linter.unusedVariables false
namespace Go.Proofs.YtinmiekbhoemjaaDoor.Qry
open Go.RowKit Words Tree QryP Kit Sch SchP Owned

theorem occ_kid8 {k : Int} {q : QT} (h : formedB k q = true) : (k = 8 → 1 ≤ QryP.oc q ∧ QryP.oc q ≤ 4) ∧ (k ≠ 8 → QryP.oc q = 0) := by
  rw [formedB_eq, Bool.and_eq_true] at h
  exact own_oc h.1
theorem kid_len {k o : Int} {f t u : ByteArray} {lo hi : List Int} {b p : Int} {ks : List QT} (h2 : k ≠ 1) (h3 : k ≠ 2) {q : QT} (hq : q ∈ ks) : (writeF numT q).length ≤ (writeF numT (.mk k o f t u lo hi b p ks)).length := by
  rw [writeF, if_neg (by omega)]
  obtain ⟨i, hii, rfl⟩ := List.mem_iff_getElem.1 hq
  have := kid_part (pc := piecesF numT (.mk k o f t u lo hi b p ks)) hii
  simp only [List.length_append, List.length_cons] at this ⊢
  omega
set_option maxHeartbeats 2000000 in
theorem rwrite_any : ∀ (n : Nat) (q : QT) (vs : List Value) (w : World) (under : Int), q.sz ≤ n → formedB under q = true → Ok q → T.AtL bare w (fun g => g < w.heap.size) (cells q) vs → (writeF numT q).length + 400 ≤ maxW →
    Calls Tryd.prog 28 #[.agg vs.toArray] w (RowBX (writeF numT q) w)
  | n, .mk k o f t u lo hi bo op ks, vs, w, under, hn, hf, hok, ha, hl => by
    have hn1 : 1 ≤ n := by have := QT.sz_pos (.mk k o f t u lo hi bo op ks); omega
    rw [formedB_eq, Bool.and_eq_true] at hf
    obtain ⟨hown, hkids⟩ := hf
    replace hkids : formedL k ks = true := hkids
    obtain ⟨hk, F1, F2, F3, F4, F5, F6, F7, F8, F9, F10, F11, F12, F13⟩ := own_facts hown
    have hkk : ∀ q ∈ ks, Ok q := by
      cases hok with
      | mk _ _ _ _ _ _ _ _ _ _ hk => exact hk
    obtain ⟨vl, vh, vk, rfl, hvl, hvh, hvk⟩ := at_cells ha
    obtain ⟨A1, c1, rfl, _, _, hr1⟩ := at_ints hvl
    obtain ⟨A2, c2, rfl, _, _, hr2⟩ := at_ints hvh
    obtain ⟨A, cA, rfl⟩ := at_sl hvk
    have hks : k ≠ 8 → k ≠ 9 → k ≠ 10 → ks = [] := fun a b c => by
      have := F13
      first | exact F13 (by omega) (by omega) | (simp_all)
    have hA : RAsk k o f t u lo hi bo op ks A1 A2 A cA w := ⟨hr1, hr2, hvk, hl, hok, fun q hq => occ_kid8 (formed_kid hkids q hq), fun q hq vs' W hau =>
      rwrite_any (n - 1) q vs' W k (by have := QT.sz_kid (kd := k) (oc := o) (f := f) (t := t) (u := u) (lo := lo) (hi := hi) (b := bo) (op := op) hq; omega) (formed_kid hkids q hq) (hkk q hq) hau (by
        have h12 : k ≠ 1 ∧ k ≠ 2 := by
          constructor
          · rintro rfl; rw [hks (by decide) (by decide) (by decide)] at hq; cases hq
          · rintro rfl; rw [hks (by decide) (by decide) (by decide)] at hq; cases hq
        have := kid_len (o := o) (f := f) (t := t) (u := u) (lo := lo) (hi := hi) (b := bo) (p := op) h12.1 h12.2 hq
        omega)⟩
    have hc : k = 1 ∨ k = 2 ∨ k = 3 ∨ k = 4 ∨ k = 5 ∨ k = 6 ∨ k = 7 ∨ k = 8 ∨ k = 9 ∨ k = 10 := by omega
    rcases hc with rfl | rfl | rfl | rfl | rfl | rfl | rfl | rfl | rfl | rfl
    · exact rwrite_1 hA
    · exact rwrite_2 hA
    · exact rwrite_3 hA
    · exact rwrite_4 hA
    · exact rwrite_5 hA
    · exact rwrite_6 hA
    · exact rwrite_7 hA
    · exact rwrite_8 hA
    · exact rwrite_9 hA
    · exact rwrite_10 hA (F10 rfl)
set_option maxRecDepth 100000 in
set_option maxHeartbeats 4000000 in
/-- The document's Formed. -/
theorem rFormed_any (q : QT) (vs : List Value) (w : World) (hok : Ok q) (ha : T.AtL bare w (fun g => g < w.heap.size) (cells q) vs) : Calls Tryd.prog 10 #[.agg vs.toArray] w (AnsB (formedB 0 q) w) := by
  have HF := Lib.hid (fun (W : World) (hW : Below w.heap.size w W) => rformed_any _ q vs 0 W (Nat.le_refl _) hok (atL_ltw ha hW))
  generalize formedB 0 q = r at *
  obtain ⟨kd, oc, f, t, u, lo, hi, b, op, ks⟩ := q
  obtain ⟨vl, vh, vk, rfl, hvl, hvh, hvk⟩ := at_cells ha
  obtain ⟨A1, c1, rfl, _⟩ := at_ints hvl
  obtain ⟨A2, c2, rfl, _⟩ := at_ints hvh
  obtain ⟨A, cA, rfl⟩ := at_sl hvk
  clear ha hvl hvh hvk hok
  go_enter Tryd.func10, Tryd.ntmps10
  go_wp2_with fail
  have hb0 : Below w.heap.size w (w.alloc (.cells #[.int .i64 kd, .int .i64 oc, .string f, .string t, .string u, .slice A1 lo.length c1, .slice A2 hi.length c2, .int .i64 b, .int .i64 op, .slice A ks.length cA] 25)) := (Below.refl _ w).alloc (Nat.le_refl _) _
  refine (HF.out _ hb0).mono ?_
  rintro e W1 ⟨rfl, hb⟩
  have HB1 := Lib.hid (hb0.trans (hb.mono hb0.size))
  clear hb hb0
  go_wp2_with fail
  go_ret
  exact ⟨rfl, HB1.out⟩
set_option maxRecDepth 100000 in
set_option maxHeartbeats 4000000 in
/-- The document's Text. -/
theorem rtext_any (q : QT) (vs : List Value) (w : World) (hok : Ok q) (ha : T.AtL bare w (fun g => g < w.heap.size) (cells q) vs) (hl : (writeF numT q).length + 400 ≤ maxW) :
    Calls Tryd.prog 14 #[.agg vs.toArray] w (StrB (str (textQ numT q)) w) := by
  have HF := Lib.hid (fun (W : World) (hW : Below w.heap.size w W) => rFormed_any q vs W hok (atL_ltw ha hW))
  have HWR := Lib.hid (fun (hf : formedB 0 q = true) (W : World) (hW : Below w.heap.size w W) => rwrite_any q.sz q vs W 0 (Nat.le_refl _) hf hok (atL_ltw ha hW) hl)
  obtain ⟨r, hr⟩ : ∃ r, formedB 0 q = r := ⟨_, rfl⟩
  have HQ : Hid (textQ numT q = if r then writeF numT q else []) := Lib.hid (by rw [textQ, hr])
  rw [hr] at HF HWR
  generalize textQ numT q = tq at *
  generalize writeF numT q = wq at *
  clear hr
  obtain ⟨kd, oc, f, t, u, lo, hi, b, op, ks⟩ := q
  obtain ⟨vl, vh, vk, rfl, hvl, hvh, hvk⟩ := at_cells ha
  obtain ⟨A1, c1, rfl, _⟩ := at_ints hvl
  obtain ⟨A2, c2, rfl, _⟩ := at_ints hvh
  obtain ⟨A, cA, rfl⟩ := at_sl hvk
  clear ha hvl hvh hvk hok hl
  go_enter Tryd.func14, Tryd.ntmps14
  go_wp2_with fail
  have hb0 : Below w.heap.size w (w.alloc (.cells #[.int .i64 kd, .int .i64 oc, .string f, .string t, .string u, .slice A1 lo.length c1, .slice A2 hi.length c2, .int .i64 b, .int .i64 op, .slice A ks.length cA] 25)) := (Below.refl _ w).alloc (Nat.le_refl _) _
  refine (HF.out _ hb0).mono ?_
  rintro e W1 ⟨rfl, hb⟩
  have HB1 := Lib.hid (hb0.trans (hb.mono hb0.size))
  have hlt : w.heap.size < W1.heap.size := by have := hb.size; simp at this; omega
  obtain ⟨c0, c1', c2', c3, c4, c5, c6, c7, c8, c9⟩ := tenB ((Blk.new w _ _).below hb (by simp))
  clear hb hb0
  cases r with
  | false =>
    obtain rfl : tq = [] := by have := HQ.out; simpa using this
    go_wp2_with fail
    go_ret
    exact ⟨rfl, HB1.out⟩
  | true =>
    obtain rfl : wq = tq := by have := HQ.out; simpa using this.symm
    go_wp2_with fail
    refine (HWR.out (by trivial) _ HB1.out).mono ?_
    rintro e W2 ⟨v, rfl, ho, hb⟩
    have HB2 := Lib.hid (HB1.out.trans (hb.mono HB1.out.size))
    have hcv := run_convert_ownX (P := Tryd.prog) W2 43 9 5 Tryd.underlying43 Tryd.underlying5 Tryd.underlying9 ho
    clear hb ho c0 c1' c2' c3 c4 c5 c6 c7 c8 c9
    go_wp2_with fail
    go_ret
    exact ⟨rfl, HB2.out⟩
end Go.Proofs.YtinmiekbhoemjaaDoor.Qry
