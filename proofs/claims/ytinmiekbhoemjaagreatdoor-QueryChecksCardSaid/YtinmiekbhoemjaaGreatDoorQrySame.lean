/- Contracts: two queries compared part by part (lectern/lecternkit.Query). -/
import Derived.Test.YtinmiekbhoemjaaGreatDoorPack37
set_option linter.unusedVariables false
namespace Go.Proofs.YtinmiekbhoemjaaGreatDoor.Qry
open Go.RowKit Words Tree QryP Kit Owned

theorem kitQuery_any_ways {kd oc kd2 oc2 : Int} {f t u f2 t2 u2 : ByteArray} {lo hi lo2 hi2 : List Int} {b op b2 op2 : Int} {ks ks2 : List QT} :
    (¬ kd = kd2) ∨ (kd = kd2 ∧ ¬ oc = oc2) ∨ (kd = kd2 ∧ oc = oc2 ∧ ¬ f = f2) ∨ (kd = kd2 ∧ oc = oc2 ∧ f = f2 ∧ ¬ t = t2) ∨ (kd = kd2 ∧ oc = oc2 ∧ f = f2 ∧ t = t2 ∧ ¬ u = u2) ∨ (kd = kd2 ∧ oc = oc2 ∧ f = f2 ∧ t = t2 ∧ u = u2 ∧ ¬ lo = lo2) ∨ (kd = kd2 ∧ oc = oc2 ∧ f = f2 ∧ t = t2 ∧ u = u2 ∧ lo = lo2 ∧ ¬ hi = hi2) ∨ (kd = kd2 ∧ oc = oc2 ∧ f = f2 ∧ t = t2 ∧ u = u2 ∧ lo = lo2 ∧ hi = hi2 ∧ ¬ b = b2) ∨ (kd = kd2 ∧ oc = oc2 ∧ f = f2 ∧ t = t2 ∧ u = u2 ∧ lo = lo2 ∧ hi = hi2 ∧ b = b2 ∧ ¬ op = op2) ∨ (kd = kd2 ∧ oc = oc2 ∧ f = f2 ∧ t = t2 ∧ u = u2 ∧ lo = lo2 ∧ hi = hi2 ∧ b = b2 ∧ op = op2 ∧ ¬ ks.length = ks2.length) ∨ (kd = kd2 ∧ oc = oc2 ∧ f = f2 ∧ t = t2 ∧ u = u2 ∧ lo = lo2 ∧ hi = hi2 ∧ b = b2 ∧ op = op2 ∧ ks.length = ks2.length) := by
  by_cases h0 : kd = kd2
  rotate_left
  · exact .inl h0
  by_cases h1 : oc = oc2
  rotate_left
  · exact .inr (.inl ⟨h0, h1⟩)
  by_cases h2 : f = f2
  rotate_left
  · exact .inr (.inr (.inl ⟨h0, h1, h2⟩))
  by_cases h3 : t = t2
  rotate_left
  · exact .inr (.inr (.inr (.inl ⟨h0, h1, h2, h3⟩)))
  by_cases h4 : u = u2
  rotate_left
  · exact .inr (.inr (.inr (.inr (.inl ⟨h0, h1, h2, h3, h4⟩))))
  by_cases h5 : lo = lo2
  rotate_left
  · exact .inr (.inr (.inr (.inr (.inr (.inl ⟨h0, h1, h2, h3, h4, h5⟩)))))
  by_cases h6 : hi = hi2
  rotate_left
  · exact .inr (.inr (.inr (.inr (.inr (.inr (.inl ⟨h0, h1, h2, h3, h4, h5, h6⟩))))))
  by_cases h7 : b = b2
  rotate_left
  · exact .inr (.inr (.inr (.inr (.inr (.inr (.inr (.inl ⟨h0, h1, h2, h3, h4, h5, h6, h7⟩)))))))
  by_cases h8 : op = op2
  rotate_left
  · exact .inr (.inr (.inr (.inr (.inr (.inr (.inr (.inr (.inl ⟨h0, h1, h2, h3, h4, h5, h6, h7, h8⟩))))))))
  by_cases h9 : ks.length = ks2.length
  rotate_left
  · exact .inr (.inr (.inr (.inr (.inr (.inr (.inr (.inr (.inr (.inl ⟨h0, h1, h2, h3, h4, h5, h6, h7, h8, h9⟩)))))))))
  exact .inr (.inr (.inr (.inr (.inr (.inr (.inr (.inr (.inr (.inr ⟨h0, h1, h2, h3, h4, h5, h6, h7, h8, h9⟩)))))))))

set_option maxRecDepth 100000 in
set_option maxHeartbeats 4000000 in
theorem kitQuery_any : ∀ (n : Nat) (q r : QT) (vs us : List Value) (w : World), q.sz ≤ n → Ok q → Ok r → T.AtL bare w (fun g => g < w.heap.size) (cells q) vs → T.AtL bare w (fun g => g < w.heap.size) (cells r) us →
    ∀ x : Bool, (x = true ↔ q = r) → Calls Tryz.prog 25 #[.agg vs.toArray, .agg us.toArray] w (BoolB x w) := by
  intro n
  induction n with
  | zero => intro q r vs us w hs; have := q.sz_pos; omega
  | succ n ih =>
  intro q r vs us w hs hq hr hv hu x hx
  cases hq with
  | @mk kd oc f t u lo hi b op ks hkd hoc hf ht hu' hlo hhi hb hop hks hk =>
  cases hr with
  | @mk kd2 oc2 f2 t2 u2 lo2 hi2 b2 op2 ks2 hkd2 hoc2 hf2 ht2 hu2 hlo2 hhi2 hb2 hop2 hks2 hk2 =>
  have IH := Lib.hid ih; clear ih
  obtain ⟨vl, vh, vk, rfl, hvl, hvh, hvk⟩ := at_cells hv
  obtain ⟨ul, uh, uk, rfl, hul, huh, huk⟩ := at_cells hu
  obtain ⟨A1, c1, rfl, _, _, r1⟩ := at_ints hvl
  obtain ⟨A2, c2, rfl, _, _, r2⟩ := at_ints hvh
  obtain ⟨B1, d1, rfl, _, _, s1⟩ := at_ints hul
  obtain ⟨B2, d2, rfl, _, _, s2⟩ := at_ints huh
  obtain ⟨AK, cK, rfl, _, hmK, eK⟩ := at_kids hvk
  obtain ⟨BK, dK, rfl, _, hmB, eB⟩ := at_kids huk
  have hLO : ∀ y : Bool, (y = true ↔ lo = lo2) → ∀ W, Below w.heap.size w W → Calls Tryz.prog 44 #[.slice A1 lo.length c1, .slice B1 lo2.length d1] W (BoolB y W) := fun y hy W hW =>
    int64s_any _ _ _ _ _ _ W ((r1.below hW).more hW.size) ((s1.below hW).more hW.size) hlo.1 hlo2.1 y hy
  have hHI : ∀ y : Bool, (y = true ↔ hi = hi2) → ∀ W, Below w.heap.size w W → Calls Tryz.prog 44 #[.slice A2 hi.length c2, .slice B2 hi2.length d2] W (BoolB y W) := fun y hy W hW =>
    int64s_any _ _ _ _ _ _ W ((r2.below hW).more hW.size) ((s2.below hW).more hW.size) hhi.1 hhi2.1 y hy
  have LO := Lib.hid hLO; have HI := Lib.hid hHI; have EK := Lib.hid eK; have EB := Lib.hid eB; have HX := Lib.hid hx
  have HK := Lib.hid hk; have HK2 := Lib.hid hk2; have HS := Lib.hid hs
  clear hLO hHI eK eB hx hk hk2 hv hu hvl hvh hvk hul huh huk r1 r2 s1 s2 hkd hoc hf ht hu' hlo hhi hb hop hkd2 hoc2 hf2 ht2 hu2 hlo2 hhi2 hb2 hop2 hs
  rcases @kitQuery_any_ways kd oc kd2 oc2 f t u f2 t2 u2 lo hi lo2 hi2 b op b2 op2 ks ks2 with hd | ⟨rfl, hd⟩ | ⟨rfl, rfl, hd⟩ | ⟨rfl, rfl, rfl, hd⟩ | ⟨rfl, rfl, rfl, rfl, hd⟩ | ⟨rfl, rfl, rfl, rfl, rfl, hd⟩ | ⟨rfl, rfl, rfl, rfl, rfl, rfl, hd⟩ | ⟨rfl, rfl, rfl, rfl, rfl, rfl, rfl, hd⟩ | ⟨rfl, rfl, rfl, rfl, rfl, rfl, rfl, rfl, hd⟩ | ⟨rfl, rfl, rfl, rfl, rfl, rfl, rfl, rfl, rfl, hd⟩ | ⟨rfl, rfl, rfl, rfl, rfl, rfl, rfl, rfl, rfl, hlen⟩
  · have HXF : Hid (x = false) := Lib.hid (by rcases bool_cases HX.out with ⟨e, _⟩ | ⟨_, e⟩; exact absurd e (by simp only [QT.mk.injEq, not_and]; intros; first | exact absurd ‹_› hd | (rintro rfl; exact hd rfl)); exact e)
    obtain ⟨hn1, hn2⟩ := bne_int hd
    clear hd
    go_enter Tryz.func25, Tryz.ntmps25
    go_wp2_with fail
    go_ret
    rw [HXF.out]
    exact ⟨rfl, below2 _ _⟩
  · have HXF : Hid (x = false) := Lib.hid (by rcases bool_cases HX.out with ⟨e, _⟩ | ⟨_, e⟩; exact absurd e (by simp only [QT.mk.injEq, not_and]; intros; first | exact absurd ‹_› hd | (rintro rfl; exact hd rfl)); exact e)
    obtain ⟨hn1, hn2⟩ := bne_int hd
    clear hd
    go_enter Tryz.func25, Tryz.ntmps25
    go_wp2_with fail
    go_ret
    rw [HXF.out]
    exact ⟨rfl, below2 _ _⟩
  · have HXF : Hid (x = false) := Lib.hid (by rcases bool_cases HX.out with ⟨e, _⟩ | ⟨_, e⟩; exact absurd e (by simp only [QT.mk.injEq, not_and]; intros; first | exact absurd ‹_› hd | (rintro rfl; exact hd rfl)); exact e)
    obtain ⟨hn1, hn2⟩ := bne_str hd
    clear hd
    go_enter Tryz.func25, Tryz.ntmps25
    go_wp2_with fail
    go_ret
    rw [HXF.out]
    exact ⟨rfl, below2 _ _⟩
  · have HXF : Hid (x = false) := Lib.hid (by rcases bool_cases HX.out with ⟨e, _⟩ | ⟨_, e⟩; exact absurd e (by simp only [QT.mk.injEq, not_and]; intros; first | exact absurd ‹_› hd | (rintro rfl; exact hd rfl)); exact e)
    obtain ⟨hn1, hn2⟩ := bne_str hd
    clear hd
    go_enter Tryz.func25, Tryz.ntmps25
    go_wp2_with fail
    go_ret
    rw [HXF.out]
    exact ⟨rfl, below2 _ _⟩
  · have HXF : Hid (x = false) := Lib.hid (by rcases bool_cases HX.out with ⟨e, _⟩ | ⟨_, e⟩; exact absurd e (by simp only [QT.mk.injEq, not_and]; intros; first | exact absurd ‹_› hd | (rintro rfl; exact hd rfl)); exact e)
    obtain ⟨hn1, hn2⟩ := bne_str hd
    clear hd
    go_enter Tryz.func25, Tryz.ntmps25
    go_wp2_with fail
    go_ret
    rw [HXF.out]
    exact ⟨rfl, below2 _ _⟩
  · have HXF : Hid (x = false) := Lib.hid (by rcases bool_cases HX.out with ⟨e, _⟩ | ⟨_, e⟩; exact absurd e (by simp only [QT.mk.injEq, not_and]; intros; first | exact absurd ‹_› hd | (rintro rfl; exact hd rfl)); exact e)
    go_enter Tryz.func25, Tryz.ntmps25
    go_wp2_with fail
    refine (LO.out false (by simpa using hd) _ (below2 _ _)).mono ?_
    rintro e W0 ⟨rfl, b0⟩
    have HB0 := Lib.hid ((below2 _ _).trans (b0.mono (by simp; omega)) : Below w.heap.size w W0)
    have BA0 := Lib.hid ((blk_a _ _ _ _ _).below b0 (by simp; omega))
    have BB0 := Lib.hid ((blk_b _ _ _ _ _).below b0 (by simp))
    obtain ⟨p0_0, p0_1, p0_2, p0_3, p0_4, p0_5, p0_6, p0_7, p0_8, p0_9⟩ := blk10 BA0.out
    obtain ⟨q0_0, q0_1, q0_2, q0_3, q0_4, q0_5, q0_6, q0_7, q0_8, q0_9⟩ := blk10 BB0.out
    clear b0
    go_wp2_with fail
    go_ret
    rw [HXF.out]
    exact ⟨rfl, HB0.out⟩
  · have HXF : Hid (x = false) := Lib.hid (by rcases bool_cases HX.out with ⟨e, _⟩ | ⟨_, e⟩; exact absurd e (by simp only [QT.mk.injEq, not_and]; intros; first | exact absurd ‹_› hd | (rintro rfl; exact hd rfl)); exact e)
    go_enter Tryz.func25, Tryz.ntmps25
    go_wp2_with fail
    refine (LO.out true (by simp) _ (below2 _ _)).mono ?_
    rintro e W0 ⟨rfl, b0⟩
    have HB0 := Lib.hid ((below2 _ _).trans (b0.mono (by simp; omega)) : Below w.heap.size w W0)
    have BA0 := Lib.hid ((blk_a _ _ _ _ _).below b0 (by simp; omega))
    have BB0 := Lib.hid ((blk_b _ _ _ _ _).below b0 (by simp))
    obtain ⟨p0_0, p0_1, p0_2, p0_3, p0_4, p0_5, p0_6, p0_7, p0_8, p0_9⟩ := blk10 BA0.out
    obtain ⟨q0_0, q0_1, q0_2, q0_3, q0_4, q0_5, q0_6, q0_7, q0_8, q0_9⟩ := blk10 BB0.out
    clear b0
    go_wp2_with fail
    refine (HI.out false (by simpa using hd) _ HB0.out).mono ?_
    rintro e W1 ⟨rfl, b1⟩
    have HB1 := Lib.hid (HB0.out.trans (b1.mono HB0.out.size))
    have BA1 := Lib.hid ((BA0.out).below b1 (BA0.out).lt)
    have BB1 := Lib.hid ((BB0.out).below b1 (BB0.out).lt)
    clear p0_0 q0_0 p0_1 q0_1 p0_2 q0_2 p0_3 q0_3 p0_4 q0_4 p0_5 q0_5 p0_6 q0_6 p0_7 q0_7 p0_8 q0_8 p0_9 q0_9
    obtain ⟨p1_0, p1_1, p1_2, p1_3, p1_4, p1_5, p1_6, p1_7, p1_8, p1_9⟩ := blk10 BA1.out
    obtain ⟨q1_0, q1_1, q1_2, q1_3, q1_4, q1_5, q1_6, q1_7, q1_8, q1_9⟩ := blk10 BB1.out
    clear b1
    go_wp2_with fail
    go_ret
    rw [HXF.out]
    exact ⟨rfl, HB1.out⟩
  · have HXF : Hid (x = false) := Lib.hid (by rcases bool_cases HX.out with ⟨e, _⟩ | ⟨_, e⟩; exact absurd e (by simp only [QT.mk.injEq, not_and]; intros; first | exact absurd ‹_› hd | (rintro rfl; exact hd rfl)); exact e)
    obtain ⟨hn1, hn2⟩ := bne_int hd
    clear hd
    go_enter Tryz.func25, Tryz.ntmps25
    go_wp2_with fail
    refine (LO.out true (by simp) _ (below2 _ _)).mono ?_
    rintro e W0 ⟨rfl, b0⟩
    have HB0 := Lib.hid ((below2 _ _).trans (b0.mono (by simp; omega)) : Below w.heap.size w W0)
    have BA0 := Lib.hid ((blk_a _ _ _ _ _).below b0 (by simp; omega))
    have BB0 := Lib.hid ((blk_b _ _ _ _ _).below b0 (by simp))
    obtain ⟨p0_0, p0_1, p0_2, p0_3, p0_4, p0_5, p0_6, p0_7, p0_8, p0_9⟩ := blk10 BA0.out
    obtain ⟨q0_0, q0_1, q0_2, q0_3, q0_4, q0_5, q0_6, q0_7, q0_8, q0_9⟩ := blk10 BB0.out
    clear b0
    go_wp2_with fail
    refine (HI.out true (by simp) _ HB0.out).mono ?_
    rintro e W1 ⟨rfl, b1⟩
    have HB1 := Lib.hid (HB0.out.trans (b1.mono HB0.out.size))
    have BA1 := Lib.hid ((BA0.out).below b1 (BA0.out).lt)
    have BB1 := Lib.hid ((BB0.out).below b1 (BB0.out).lt)
    clear p0_0 q0_0 p0_1 q0_1 p0_2 q0_2 p0_3 q0_3 p0_4 q0_4 p0_5 q0_5 p0_6 q0_6 p0_7 q0_7 p0_8 q0_8 p0_9 q0_9
    obtain ⟨p1_0, p1_1, p1_2, p1_3, p1_4, p1_5, p1_6, p1_7, p1_8, p1_9⟩ := blk10 BA1.out
    obtain ⟨q1_0, q1_1, q1_2, q1_3, q1_4, q1_5, q1_6, q1_7, q1_8, q1_9⟩ := blk10 BB1.out
    clear b1
    go_wp2_with fail
    go_ret
    rw [HXF.out]
    exact ⟨rfl, HB1.out⟩
  · have HXF : Hid (x = false) := Lib.hid (by rcases bool_cases HX.out with ⟨e, _⟩ | ⟨_, e⟩; exact absurd e (by simp only [QT.mk.injEq, not_and]; intros; first | exact absurd ‹_› hd | (rintro rfl; exact hd rfl)); exact e)
    obtain ⟨hn1, hn2⟩ := bne_int hd
    clear hd
    go_enter Tryz.func25, Tryz.ntmps25
    go_wp2_with fail
    refine (LO.out true (by simp) _ (below2 _ _)).mono ?_
    rintro e W0 ⟨rfl, b0⟩
    have HB0 := Lib.hid ((below2 _ _).trans (b0.mono (by simp; omega)) : Below w.heap.size w W0)
    have BA0 := Lib.hid ((blk_a _ _ _ _ _).below b0 (by simp; omega))
    have BB0 := Lib.hid ((blk_b _ _ _ _ _).below b0 (by simp))
    obtain ⟨p0_0, p0_1, p0_2, p0_3, p0_4, p0_5, p0_6, p0_7, p0_8, p0_9⟩ := blk10 BA0.out
    obtain ⟨q0_0, q0_1, q0_2, q0_3, q0_4, q0_5, q0_6, q0_7, q0_8, q0_9⟩ := blk10 BB0.out
    clear b0
    go_wp2_with fail
    refine (HI.out true (by simp) _ HB0.out).mono ?_
    rintro e W1 ⟨rfl, b1⟩
    have HB1 := Lib.hid (HB0.out.trans (b1.mono HB0.out.size))
    have BA1 := Lib.hid ((BA0.out).below b1 (BA0.out).lt)
    have BB1 := Lib.hid ((BB0.out).below b1 (BB0.out).lt)
    clear p0_0 q0_0 p0_1 q0_1 p0_2 q0_2 p0_3 q0_3 p0_4 q0_4 p0_5 q0_5 p0_6 q0_6 p0_7 q0_7 p0_8 q0_8 p0_9 q0_9
    obtain ⟨p1_0, p1_1, p1_2, p1_3, p1_4, p1_5, p1_6, p1_7, p1_8, p1_9⟩ := blk10 BA1.out
    obtain ⟨q1_0, q1_1, q1_2, q1_3, q1_4, q1_5, q1_6, q1_7, q1_8, q1_9⟩ := blk10 BB1.out
    clear b1
    go_wp2_with fail
    go_ret
    rw [HXF.out]
    exact ⟨rfl, HB1.out⟩
  · have HXF : Hid (x = false) := Lib.hid (by rcases bool_cases HX.out with ⟨e, _⟩ | ⟨_, e⟩; exact absurd e (by simp only [QT.mk.injEq, not_and]; intros; first | exact absurd ‹_› hd | (rintro rfl; exact hd rfl)); exact e)
    have hn1 : ((ks.length : Int) != (ks2.length : Int)) = true := by rw [bne_iff_ne]; omega
    clear hd
    go_enter Tryz.func25, Tryz.ntmps25
    go_wp2_with fail
    refine (LO.out true (by simp) _ (below2 _ _)).mono ?_
    rintro e W0 ⟨rfl, b0⟩
    have HB0 := Lib.hid ((below2 _ _).trans (b0.mono (by simp; omega)) : Below w.heap.size w W0)
    have BA0 := Lib.hid ((blk_a _ _ _ _ _).below b0 (by simp; omega))
    have BB0 := Lib.hid ((blk_b _ _ _ _ _).below b0 (by simp))
    obtain ⟨p0_0, p0_1, p0_2, p0_3, p0_4, p0_5, p0_6, p0_7, p0_8, p0_9⟩ := blk10 BA0.out
    obtain ⟨q0_0, q0_1, q0_2, q0_3, q0_4, q0_5, q0_6, q0_7, q0_8, q0_9⟩ := blk10 BB0.out
    clear b0
    go_wp2_with fail
    refine (HI.out true (by simp) _ HB0.out).mono ?_
    rintro e W1 ⟨rfl, b1⟩
    have HB1 := Lib.hid (HB0.out.trans (b1.mono HB0.out.size))
    have BA1 := Lib.hid ((BA0.out).below b1 (BA0.out).lt)
    have BB1 := Lib.hid ((BB0.out).below b1 (BB0.out).lt)
    clear p0_0 q0_0 p0_1 q0_1 p0_2 q0_2 p0_3 q0_3 p0_4 q0_4 p0_5 q0_5 p0_6 q0_6 p0_7 q0_7 p0_8 q0_8 p0_9 q0_9
    obtain ⟨p1_0, p1_1, p1_2, p1_3, p1_4, p1_5, p1_6, p1_7, p1_8, p1_9⟩ := blk10 BA1.out
    obtain ⟨q1_0, q1_1, q1_2, q1_3, q1_4, q1_5, q1_6, q1_7, q1_8, q1_9⟩ := blk10 BB1.out
    clear b1
    go_wp2_with fail
    go_ret
    rw [HXF.out]
    exact ⟨rfl, HB1.out⟩
  · have hl1 : ((ks.length : Int) != (ks2.length : Int)) = false := by rw [hlen]; simp
    have HL := Lib.hid hlen; clear hlen
    have HXK : Hid (x = true ↔ ks = ks2) := Lib.hid (by rw [HX.out]; simp)
    clear HX
    go_enter Tryz.func25, Tryz.ntmps25
    go_wp2_with fail
    refine (LO.out true (by simp) _ (below2 _ _)).mono ?_
    rintro e W0 ⟨rfl, b0⟩
    have HB0 := Lib.hid ((below2 _ _).trans (b0.mono (by simp; omega)) : Below w.heap.size w W0)
    have BA0 := Lib.hid ((blk_a _ _ _ _ _).below b0 (by simp; omega))
    have BB0 := Lib.hid ((blk_b _ _ _ _ _).below b0 (by simp))
    obtain ⟨p0_0, p0_1, p0_2, p0_3, p0_4, p0_5, p0_6, p0_7, p0_8, p0_9⟩ := blk10 BA0.out
    obtain ⟨q0_0, q0_1, q0_2, q0_3, q0_4, q0_5, q0_6, q0_7, q0_8, q0_9⟩ := blk10 BB0.out
    clear b0
    go_wp2_with fail
    refine (HI.out true (by simp) _ HB0.out).mono ?_
    rintro e W1 ⟨rfl, b1⟩
    have HB1 := Lib.hid (HB0.out.trans (b1.mono HB0.out.size))
    have BA1 := Lib.hid ((BA0.out).below b1 (BA0.out).lt)
    have BB1 := Lib.hid ((BB0.out).below b1 (BB0.out).lt)
    clear p0_0 q0_0 p0_1 q0_1 p0_2 q0_2 p0_3 q0_3 p0_4 q0_4 p0_5 q0_5 p0_6 q0_6 p0_7 q0_7 p0_8 q0_8 p0_9 q0_9
    obtain ⟨p1_0, p1_1, p1_2, p1_3, p1_4, p1_5, p1_6, p1_7, p1_8, p1_9⟩ := blk10 BA1.out
    obtain ⟨q1_0, q1_1, q1_2, q1_3, q1_4, q1_5, q1_6, q1_7, q1_8, q1_9⟩ := blk10 BB1.out
    clear b1
    go_wp2_with fail
    have CA : Hid (W1.cell? ⟨w.heap.size, 9, none⟩ = some (.slice AK ks.length cK)) := Lib.hid p1_9
    have CB : Hid (W1.cell? ⟨w.heap.size + 1, 9, none⟩ = some (.slice BK ks2.length dK)) := Lib.hid q1_9
    have hzz : w.heap.size + 2 ≤ W1.heap.size := BB1.out.lt
    clear p1_0 q1_0 p1_1 q1_1 p1_2 q1_2 p1_3 q1_3 p1_4 q1_4 p1_5 q1_5 p1_6 q1_6 p1_7 q1_7 p1_8 q1_8 p1_9 q1_9
    go_loopw [5] (fun i wr => ∃ k : Nat, k ≤ ks.length ∧ i = .int .i64 k ∧ Hid (ks.take k = ks2.take k) ∧ Hid (Below W1.heap.size W1 wr)) (fun i _ => ks.length - (intOf i).toNat)
    case atStart => exact ⟨0, by omega, rfl, Lib.hid (by simp), Lib.hid (Below.refl _ _)⟩
    case round =>
      obtain ⟨k, hkk, rfl, HE, HW⟩ := hrel
      have hcA : wr.cell? ⟨w.heap.size, 9, none⟩ = some (.slice AK ks.length cK) := (HW.out.cell (by show w.heap.size < _; omega)).trans CA.out
      have hcB : wr.cell? ⟨w.heap.size + 1, 9, none⟩ = some (.slice BK ks2.length dK) := (HW.out.cell (by show w.heap.size + 1 < _; omega)).trans CB.out
      have hwz := HW.out.size
      by_cases hlt : k < ks.length
      · have hlt2 : k < ks2.length := by have := HL.out; omega
        have HWW : Hid (Below w.heap.size w wr) := Lib.hid (HB1.out.trans (HW.out.mono HB1.out.size))
        obtain ⟨ad, us, rfl, hba, au, lu, cu⟩ := EK.out k hlt
        obtain ⟨bd, us2, rfl, hbb, au2, lu2, cu2⟩ := EB.out k hlt2
        replace cu := cu.keep (w' := wr) (fun p hp => HWW.out.cell (by rw [hp, block_of_add]; exact hba))
        replace cu2 := cu2.keep (w' := wr) (fun p hp => HWW.out.cell (by rw [hp, block_of_add]; exact hbb))
        have hok := HK.out _ (List.getElem_mem hlt)
        have hok2 := HK2.out _ (List.getElem_mem hlt2)
        have hsz : ks[k].sz ≤ n := by have := QT.sz_kid (kd := kd) (oc := oc) (f := f) (t := t) (u := u) (lo := lo) (hi := hi) (b := b) (op := op) (List.getElem_mem hlt); have := HS.out; omega
        have HST : Hid (ks.take (k + 1) = ks.take k ++ [ks[k]] ∧ ks2.take (k + 1) = ks2.take k ++ [ks2[k]]) := Lib.hid ⟨take_snoc hlt, take_snoc hlt2⟩
        have HNE : Hid (¬ ks[k] = ks2[k] → x = false) := Lib.hid (fun h => by
          rcases bool_cases HXK.out with ⟨e, _⟩ | ⟨_, e⟩
          · exact absurd e (ne_kid hlt hlt2 h)
          · exact e)
        have hC : ∀ (y : Bool) (W : World), (y = true ↔ ks[k] = ks2[k]) → Below w.heap.size w W → Calls Tryz.prog 25 #[.agg us.toArray, .agg us2.toArray] W (BoolB y W) := fun y W hy hW =>
          IH.out _ _ us us2 W hsz hok hok2 (AtL.below au hW (fun g hg => Nat.lt_of_lt_of_le hg hW.size)) (AtL.below au2 hW (fun g hg => Nat.lt_of_lt_of_le hg hW.size)) y hy
        have HC := Lib.hid hC
        clear hC hok hok2 hsz
        generalize hx1 : ks[k] = q1 at *
        generalize hx2 : ks2[k] = q2 at *
        clear hx1 hx2
        have HQ : Hid (q1 = q2 ∨ ¬ q1 = q2) := Lib.hid (Classical.em _)
        obtain ⟨k1, o1, f1, t1, u1, l1, h1, b1, p1, e1⟩ := q1
        obtain ⟨k2, o2, f2', t2', u2', l2, h2, b2', p2, e2⟩ := q2
        obtain ⟨x5, x6, x9, rfl, -, -, -⟩ := at_cells au
        obtain ⟨y5, y6, y9, rfl, -, -, -⟩ := at_cells au2
        obtain ⟨a0, a1, a2, a3, a4, a5, a6, a7, a8, a9⟩ := ten cu
        obtain ⟨b0, b1'', b2'', b3, b4, b5, b6, b7, b8, b9⟩ := ten cu2
        clear cu cu2 au au2 lu lu2
        go_upto_region 6 with fail
        have hBW : Below w.heap.size w ({ wr with drawn := wr.drawn + 1 } : World) := HWW.out.trans ⟨rfl, rfl, rfl, Nat.le_refl _, fun _ _ => rfl⟩
        have hBV : Below W1.heap.size W1 ({ wr with drawn := wr.drawn + 1 } : World) := HW.out.trans ⟨rfl, rfl, rfl, Nat.le_refl _, fun _ _ => rfl⟩
        change ({ wr with drawn := wr.drawn + 1 } : World).cell? _ = _ at hcA hcB a0 a1 a2 a3 a4 a5 a6 a7 a8 a9 b0 b1'' b2'' b3 b4 b5 b6 b7 b8 b9
        refine wp_region_still_tail 10 (by kernel_rfl) (by kernel_rfl) ?_
        simp only [List.take_succ_cons, List.take_zero, List.drop_succ_cons, List.drop_zero]
        clear HW HWW hwz
        generalize ({ wr with drawn := wr.drawn + 1 } : World) = W at *
        repeat still_step
        refine wpStill_nil ?_
        change wpList _ _ _ _ _ _
        have HBW := Lib.hid hBW; have HBV := Lib.hid hBV; clear hBW hBV
        clear hcA hcB a0 a1 a2 a3 a4 a5 a6 a7 a8 a9 b0 b1'' b2'' b3 b4 b5 b6 b7 b8 b9
        rcases HQ.out with hq | hq
        · go_wp2_with fail
          refine (HC.out true _ (by simpa using hq) HBW.out).mono ?_
          rintro e W2 ⟨rfl, bW⟩
          have BV := Lib.hid (HBV.out.trans (bW.mono HBV.out.size))
          have HQ2 := Lib.hid hq
          clear bW hq
          go_wp2_with fail
          go_roundw
          case rel => exact ⟨k + 1, by omega, by go_num, Lib.hid (by rw [HST.out.1, HST.out.2, HE.out, HQ2.out]), BV⟩
          case measure => simp [intOf]; omega
        · have HF := Lib.hid (HNE.out hq)
          go_wp2_with fail
          refine (HC.out false _ (by simpa using hq) HBW.out).mono ?_
          rintro e W2 ⟨rfl, bW⟩
          have BW := Lib.hid (HBW.out.trans (bW.mono HBW.out.size))
          clear bW hq
          go_wp2_with fail
          go_ret
          rw [HF.out]
          exact ⟨rfl, BW.out⟩
      · obtain rfl : k = ks.length := by omega
        have HT : Hid (x = true) := Lib.hid (HXK.out.2 (take_all HE.out HL.out))
        go_wp2_with fail
        go_ret
        rw [HT.out]
        exact ⟨rfl, HB1.out.trans (HW.out.mono HB1.out.size)⟩

end Go.Proofs.YtinmiekbhoemjaaGreatDoor.Qry
