/- Contract: the parser's rest. Written by gen_rest.py. -/
import Derived.Test.YtinmiekbhoemjaaDoorQryPar8
set_option linter.unusedVariables false
namespace Go.Proofs.YtinmiekbhoemjaaDoor.Qry
open Go.RowKit Words Tree QryP Kit Sch SchP Owned

section
variable {w : World} {B : Nat} {k o b op : Int} {f t u : ByteArray} {lo hi : List Int} {ks : List QT} {us : List Value} {bs : List Nat}
theorem OQ.field (h : OQ w B (.mk k o f t u lo hi b op ks) us bs) (f' : ByteArray) : OQ w B (.mk k o f' t u lo hi b op ks) (us.set 2 (.string f')) bs := by
  rw [OQ] at h ⊢
  obtain ⟨vl, vh, vk, xs, bk, rfl, h1⟩ := h
  exact ⟨vl, vh, vk, xs, bk, rfl, h1⟩
theorem OQ.text (h : OQ w B (.mk k o f t u lo hi b op ks) us bs) (t' : ByteArray) : OQ w B (.mk k o f t' u lo hi b op ks) (us.set 3 (.string t')) bs := by
  rw [OQ] at h ⊢
  obtain ⟨vl, vh, vk, xs, bk, rfl, h1⟩ := h
  exact ⟨vl, vh, vk, xs, bk, rfl, h1⟩
theorem OQ.upto (h : OQ w B (.mk k o f t u lo hi b op ks) us bs) (u' : ByteArray) : OQ w B (.mk k o f t u' lo hi b op ks) (us.set 4 (.string u')) bs := by
  rw [OQ] at h ⊢
  obtain ⟨vl, vh, vk, xs, bk, rfl, h1⟩ := h
  exact ⟨vl, vh, vk, xs, bk, rfl, h1⟩
theorem OQ.boost (h : OQ w B (.mk k o f t u lo hi b op ks) us bs) (b' : Int) : OQ w B (.mk k o f t u lo hi b' op ks) (us.set 7 (.int .i64 b')) bs := by
  rw [OQ] at h ⊢
  obtain ⟨vl, vh, vk, xs, bk, rfl, h1⟩ := h
  exact ⟨vl, vh, vk, xs, bk, rfl, h1⟩
theorem OQ.oper (h : OQ w B (.mk k o f t u lo hi b op ks) us bs) (op' : Int) : OQ w B (.mk k o f t u lo hi b op' ks) (us.set 8 (.int .i64 op')) bs := by
  rw [OQ] at h ⊢
  obtain ⟨vl, vh, vk, xs, bk, rfl, h1⟩ := h
  exact ⟨vl, vh, vk, xs, bk, rfl, h1⟩
theorem nodup_two {a b c : List Nat} (h : (a ++ (b ++ c)).Nodup) : (b ++ c).Nodup ∧ a.Nodup := by
  rw [List.nodup_append] at h
  exact ⟨h.2.1, h.1⟩
theorem ob_nodup (v : Value) : v.ownBlock.toList.Nodup := by cases v.ownBlock <;> simp
theorem OQ.low (h : OQ w B (.mk k o f t u lo hi b op ks) us bs) (hnd : bs.Nodup) {v : Value} {lo' : List Int} (hv : RowI w B v lo') (hnew : ∀ g, v.ownBlock = some g → g ∉ bs) : ∃ bs', OQ w B (.mk k o f t u lo' hi b op ks) (us.set 5 v) bs' ∧ bs'.Nodup := by
  rw [OQ] at h
  obtain ⟨vl, vh, vk, xs, bk, rfl, h1, h2, h3, h4, rfl⟩ := h
  refine ⟨v.ownBlock.toList ++ (vh.ownBlock.toList ++ (vk.ownBlock.toList ++ bk)), by rw [OQ]; exact ⟨v, vh, vk, xs, bk, rfl, hv, h2, h3, h4, rfl⟩, ?_⟩
  rw [List.nodup_append]
  refine ⟨ob_nodup v, (nodup_two hnd).1, fun a ha c hc e => ?_⟩
  subst e
  exact hnew a (mem_ob.1 ha) (List.mem_append_right _ hc)
theorem OQ.high (h : OQ w B (.mk k o f t u lo hi b op ks) us bs) (hnd : bs.Nodup) {v : Value} {hi' : List Int} (hv : RowI w B v hi') (hnew : ∀ g, v.ownBlock = some g → g ∉ bs) : ∃ bs', OQ w B (.mk k o f t u lo hi' b op ks) (us.set 6 v) bs' ∧ bs'.Nodup := by
  rw [OQ] at h
  obtain ⟨vl, vh, vk, xs, bk, rfl, h1, h2, h3, h4, rfl⟩ := h
  refine ⟨vl.ownBlock.toList ++ (v.ownBlock.toList ++ (vk.ownBlock.toList ++ bk)), by rw [OQ]; exact ⟨vl, v, vk, xs, bk, rfl, h1, hv, h3, h4, rfl⟩, ?_⟩
  have h5 := (nodup_two hnd).1
  rw [List.nodup_append] at hnd ⊢
  refine ⟨ob_nodup vl, ?_, fun a ha c hc e => ?_⟩
  · rw [List.nodup_append]
    refine ⟨ob_nodup v, (nodup_two h5).1, fun a ha c hc e => ?_⟩
    subst e
    exact hnew a (mem_ob.1 ha) (List.mem_append_right _ (List.mem_append_right _ hc))
  · subst e
    rcases List.mem_append.1 hc with hc | hc
    · exact hnew a (mem_ob.1 hc) (List.mem_append_left _ ha)
    · exact hnd.2.2 a ha a (List.mem_append_right _ hc) rfl
end
theorem Fr.shape {s : ByteArray} {gp gq above j : Nat} {w0 w : World} {k o b op : Int} {f t u : ByteArray} {lo hi : List Int} {ks : List QT} {us : List Value} {bs : List Nat} (h : Fr s gp w0 gq above j (.mk k o f t u lo hi b op ks) us bs w) :
    ∃ (cl ch ck : Nat) (al ah ak : Option Addr), us = [.int .i64 k, .int .i64 o, .string f, .string t, .string u, .slice al lo.length cl, .slice ah hi.length ch, .int .i64 b, .int .i64 op, .slice ak ks.length ck] := by
  have h1 := h.oq
  rw [OQ] at h1
  obtain ⟨vl, vh, vk, xs, bk, rfl, h1, h2, h3, h4, rfl⟩ := h1
  obtain ⟨al, cl, rfl⟩ := own_slice h1
  obtain ⟨ah, ch, rfl⟩ := own_slice h2
  have h3' : ∃ ak ck, vk = .slice ak ks.length ck := by
    rcases h3.2 with ⟨rfl, h0⟩ | ⟨g, cap, cur, hv, _⟩
    · exact ⟨none, 0, by rw [h0]⟩
    · exact ⟨_, _, hv⟩
  obtain ⟨ak, ck, rfl⟩ := h3'
  exact ⟨cl, ch, ck, al, ah, ak, rfl⟩
/-- What stands behind a field's name. -/
def restF (k : Int) (f : ByteArray) (r : R) : E (QT × R) :=
  if k = 7 then (match sevS numT parT (r.length + 1) r with
    | .error e => .error e
    | .ok (lo, r1) => match wantS 44 r1 with
      | .error e => .error e
      | .ok r2 => match sevS numT parT (r2.length + 1) r2 with
        | .error e => .error e
        | .ok (hi, r3) => if lo.length ≠ hi.length ∨ 4 < lo.length then .error ((skipS r3).length, 180) else .ok (.mk 7 0 f emp emp lo hi 0 0 [], skipS r3))
  else match textS r with
    | .error e => .error e
    | .ok (t, r1) => if k = 6 then (match wantS 44 r1 with
      | .error e => .error e
      | .ok r2 => match textS r2 with
        | .error e => .error e
        | .ok (u, r3) => .ok (.mk 6 0 f t u [] [] 0 0 [], r3))
      else .ok (.mk k 0 f t emp [] [] 0 0 [], r1)
set_option maxRecDepth 100000 in
set_option maxHeartbeats 8000000 in
theorem rest_o (k : Int) (s : ByteArray) (gp : Nat) (w0 : World) (gq above j : Nat) (f : ByteArray) (us : List Value) (bs : List Nat) (w : World) (h : Fr s gp w0 gq above j (.mk k 0 f emp emp [] [] 0 0 []) us bs w) (hs : s.size ≤ 4096) (h6 : k ≠ 6) (h7 : k ≠ 7) : Calls Tryd.prog 71 #[.pointer (some ⟨gp, 0, none⟩), .pointer (some ⟨gq, 0, none⟩)] w (OutF s gp w0 gq above j (restF k f (rem s j))) := by
  have HF := Lib.hid h
  obtain ⟨cl, ch, ck, al, ah, ak, hus⟩ := h.shape
  have HUS := Lib.hid hus
  have c0 : w.cell? ⟨gq, 0, none⟩ = some (.int .i64 k) := by rw [h.bq.cell 0, hus]; rfl
  clear hus
  obtain ⟨x, hx⟩ : ∃ x, restF k f (rem s j) = x := ⟨_, rfl⟩
  rw [hx]
  have HX := Lib.hid hx.symm
  unfold restF at HX
  have H1 := Lib.hid (ptext_any s gp j w h.pa hs)
  clear h hx
  rw [if_neg h7] at HX
  simp only [if_neg h6] at HX
  have d7 : (k == 7) = false := by rw [beq_eq_false_iff_ne]; exact h7
  have d6 : (k == 6) = false := by rw [beq_eq_false_iff_ne]; exact h6
  go_enter Tryd.func71, Tryd.ntmps71
  go_wp2_with fail
  refine H1.out.mono ?_
  clear H1
  obtain ⟨y1, hy1⟩ : ∃ y, textS (rem s j) = y := ⟨_, rfl⟩
  rw [hy1] at HX ⊢
  clear hy1
  match y1 with
  | .error (p, c) =>
    intro e w9 ho
    obtain ⟨rfl, hg⟩ := ho
    refine ⟨rfl, ?_⟩
    rw [HX.out]
    exact ⟨rfl, grown_trans' HF.out.grown hg⟩
  | .ok (t, r1) =>
    intro e w1 ho
    obtain ⟨v, rfl, rfl, hg, j1, hj1, hpa, hr1⟩ := ho
    have HF1 := Lib.hid (HF.out.same hg hpa)
    have c0 : w1.cell? ⟨gq, 0, none⟩ = some (.int .i64 k) := by rw [HF1.out.bq.cell 0, HUS.out]; rfl
    have c3 : w1.cell? ⟨gq, 3, none⟩ = some (.string emp) := by rw [HF1.out.bq.cell 3, HUS.out]; rfl
    have z3 : w1.frozen? ⟨gq, 3, none⟩ = false := HF1.out.bq.frozen 3
    have HF2 := Lib.hid (HF1.out.set 3 (.string t) (HF1.out.oq.text t) HF1.out.nd)
    have d0 : (w1.setCell ⟨gq, 3, none⟩ (.string t)).cell? ⟨gq, 0, none⟩ = some (.int .i64 k) := by rw [HF2.out.bq.cell 0, HUS.out]; rfl
    clear hg hpa
    go_wp2_with fail
    go_end0
    rw [HX.out]
    exact ⟨rfl, j1, _, _, hj1, hr1, HF2.out⟩
set_option maxRecDepth 100000 in
set_option maxHeartbeats 8000000 in
theorem rest_6 (s : ByteArray) (gp : Nat) (w0 : World) (gq above j : Nat) (f : ByteArray) (us : List Value) (bs : List Nat) (w : World) (h : Fr s gp w0 gq above j (.mk 6 0 f emp emp [] [] 0 0 []) us bs w) (hs : s.size ≤ 4096) : Calls Tryd.prog 71 #[.pointer (some ⟨gp, 0, none⟩), .pointer (some ⟨gq, 0, none⟩)] w (OutF s gp w0 gq above j (restF 6 f (rem s j))) := by
  have HF := Lib.hid h
  obtain ⟨cl, ch, ck, al, ah, ak, hus⟩ := h.shape
  have HUS := Lib.hid hus
  have c0 : w.cell? ⟨gq, 0, none⟩ = some (.int .i64 6) := by rw [h.bq.cell 0, hus]; rfl
  clear hus
  obtain ⟨x, hx⟩ : ∃ x, restF 6 f (rem s j) = x := ⟨_, rfl⟩
  rw [hx]
  have HX := Lib.hid hx.symm
  unfold restF at HX
  have H1 := Lib.hid (ptext_any s gp j w h.pa hs)
  clear h hx
  rw [if_neg (by decide)] at HX
  simp only [if_pos] at HX
  go_enter Tryd.func71, Tryd.ntmps71
  go_wp2_with fail
  refine H1.out.mono ?_
  clear H1
  obtain ⟨y1, hy1⟩ : ∃ y, textS (rem s j) = y := ⟨_, rfl⟩
  rw [hy1] at HX ⊢
  clear hy1
  match y1 with
  | .error (p, c) =>
    intro e w9 ho
    obtain ⟨rfl, hg⟩ := ho
    refine ⟨rfl, ?_⟩
    rw [HX.out]
    exact ⟨rfl, grown_trans' HF.out.grown hg⟩
  | .ok (t, r1) =>
    intro e w1 ho
    obtain ⟨v, rfl, rfl, hg, j1, hj1, hpa, hr1⟩ := ho
    have HF1 := Lib.hid (HF.out.same hg hpa)
    have c0 : w1.cell? ⟨gq, 0, none⟩ = some (.int .i64 6) := by rw [HF1.out.bq.cell 0, HUS.out]; rfl
    have c3 : w1.cell? ⟨gq, 3, none⟩ = some (.string emp) := by rw [HF1.out.bq.cell 3, HUS.out]; rfl
    have z3 : w1.frozen? ⟨gq, 3, none⟩ = false := HF1.out.bq.frozen 3
    have HF2 := Lib.hid (HF1.out.set 3 (.string t) (HF1.out.oq.text t) HF1.out.nd)
    have d0 : (w1.setCell ⟨gq, 3, none⟩ (.string t)).cell? ⟨gq, 0, none⟩ = some (.int .i64 6) := by rw [HF2.out.bq.cell 0, HUS.out]; rfl
    clear hg hpa
    subst hr1
    go_upto_region 9 with fail
    generalize w1.setCell ⟨gq, 3, none⟩ (.string t) = w2 at *
    have H2 := Lib.hid (want_any 44 s gp j1 w2 HF2.out.pa hs)
    go_wp2_with fail
    refine H2.out.mono ?_
    clear H2
    obtain ⟨y2, hy2⟩ : ∃ y, wantS 44 (rem s j1) = y := ⟨_, rfl⟩
    rw [hy2] at HX ⊢
    clear hy2
    match y2 with
    | .error (p, c) =>
      intro e w9 ho
      obtain ⟨rfl, hg⟩ := ho
      refine ⟨rfl, ?_⟩
      rw [HX.out]
      exact ⟨rfl, grown_trans' HF2.out.grown hg⟩
    | .ok r2 =>
      intro e w3 ho
      obtain ⟨rfl, hg, j2, hj2, hpa, hr2⟩ := ho
      have HF3 := Lib.hid (HF2.out.same hg hpa)
      subst hr2
      have H3 := Lib.hid (ptext_any s gp j2 w3 HF3.out.pa hs)
      clear hg hpa
      go_wp2_with fail
      refine H3.out.mono ?_
      clear H3
      obtain ⟨y3, hy3⟩ : ∃ y, textS (rem s j2) = y := ⟨_, rfl⟩
      rw [hy3] at HX ⊢
      clear hy3
      match y3 with
      | .error (p, c) =>
        intro e w9 ho
        obtain ⟨rfl, hg⟩ := ho
        refine ⟨rfl, ?_⟩
        rw [HX.out]
        exact ⟨rfl, grown_trans' HF3.out.grown hg⟩
      | .ok (u, r3) =>
        intro e w4 ho
        obtain ⟨v, rfl, rfl, hg, j3, hj3, hpa, hr3⟩ := ho
        have HF4 := Lib.hid (HF3.out.same hg hpa)
        have c4 : w4.cell? ⟨gq, 4, none⟩ = some (.string emp) := by rw [HF4.out.bq.cell 4, HUS.out]; rfl
        have z4 : w4.frozen? ⟨gq, 4, none⟩ = false := HF4.out.bq.frozen 4
        have HF5 := Lib.hid (HF4.out.set 4 (.string u) (HF4.out.oq.upto u) HF4.out.nd)
        clear hg hpa
        go_wp2_with fail
        go_end0
        rw [HX.out]
        exact ⟨rfl, j3, _, _, by omega, hr3, HF5.out⟩
set_option maxRecDepth 100000 in
set_option maxHeartbeats 8000000 in
theorem rest_7 (B : Nat) (s : ByteArray) (gp : Nat) (w0 : World) (gq above j : Nat) (f : ByteArray) (us : List Value) (bs : List Nat) (w : World) (h : Fr s gp w0 gq above j (.mk 7 0 f emp emp [] [] 0 0 []) us bs w) (hs : s.size ≤ 4096) (hB : B ≤ gp) (hT : PT B w) : Calls Tryd.prog 71 #[.pointer (some ⟨gp, 0, none⟩), .pointer (some ⟨gq, 0, none⟩)] w (OutF s gp w0 gq above j (restF 7 f (rem s j))) := by
  have HF := Lib.hid h
  obtain ⟨cl, ch, ck, al, ah, ak, hus⟩ := h.shape
  have HUS := Lib.hid hus
  have c0 : w.cell? ⟨gq, 0, none⟩ = some (.int .i64 7) := by rw [h.bq.cell 0, hus]; rfl
  clear hus
  obtain ⟨x, hx⟩ : ∃ x, restF 7 f (rem s j) = x := ⟨_, rfl⟩
  rw [hx]
  have HX := Lib.hid hx.symm
  unfold restF at HX
  have H1 := Lib.hid (several_any B s gp j w h.pa hs hB hT)
  clear h hx
  have HT := Lib.hid hT
  clear hT
  rw [if_pos rfl] at HX
  go_enter Tryd.func71, Tryd.ntmps71
  go_wp2_with fail
  refine H1.out.mono ?_
  clear H1
  obtain ⟨y1, hy1⟩ : ∃ y, sevS numT parT ((rem s j).length + 1) (rem s j) = y := ⟨_, rfl⟩
  rw [hy1] at HX ⊢
  clear hy1
  match y1 with
  | .error (p, c) =>
    intro e w9 ho
    obtain ⟨rfl, hg⟩ := ho
    refine ⟨rfl, ?_⟩
    rw [HX.out]
    exact ⟨rfl, grown_trans' HF.out.grown hg⟩
  | .ok (lo, r1) =>
    intro e w1 ho
    obtain ⟨v, rfl, hN, hg, j1, hj1, hpa, hr1⟩ := ho
    obtain ⟨aL, cL, hao⟩ := own_slice hN.1
    subst hao
    have HF1 := Lib.hid (HF.out.same hg hpa)
    obtain ⟨bs2, hoq2, hnd2⟩ := HF1.out.oq.low HF1.out.nd (own_le' hN.1 (show gq + 1 ≤ w.heap.size from HF.out.bq.lt)) (fun g hg hm => by have := (World.ownsRow.lt hN.1 g hg).1; have := HF.out.lt g hm; omega)
    have c5 : w1.cell? ⟨gq, 5, none⟩ = some (.slice al ([] : List Int).length cl) := by rw [HF1.out.bq.cell 5, HUS.out]; rfl
    have z5 : w1.frozen? ⟨gq, 5, none⟩ = false := HF1.out.bq.frozen 5
    have HF2 := Lib.hid (HF1.out.set 5 _ hoq2 hnd2)
    obtain ⟨us2, hus2⟩ : ∃ u, us.set 5 (.slice aL lo.length cL) = u := ⟨_, rfl⟩
    rw [hus2] at HF2
    have HUS2 : Hid (us2 = [.int .i64 7, .int .i64 0, .string f, .string emp, .string emp, .slice aL lo.length cL, .slice ah ([] : List Int).length ch, .int .i64 0, .int .i64 0, .slice ak ([] : List QT).length ck]) := Lib.hid (by rw [← hus2, HUS.out]; rfl)
    have HT2 := Lib.hid ((HT.out.grown hg hB).next (show Below B w1 (w1.setCell ⟨gq, 5, none⟩ (.slice aL lo.length cL)) from (Below.refl B w1).setCell (by show B ≤ gq; have := HF.out.hq; have := HF.out.hp; omega) _))
    subst hr1
    clear hg hpa hN hoq2 hnd2 hus2
    go_upto_region 2 with fail
    generalize w1.setCell ⟨gq, 5, none⟩ (.slice aL lo.length cL) = w2 at *
    have H2 := Lib.hid (want_any 44 s gp j1 w2 HF2.out.pa hs)
    go_wp2_with fail
    refine H2.out.mono ?_
    clear H2
    obtain ⟨y2, hy2⟩ : ∃ y, wantS 44 (rem s j1) = y := ⟨_, rfl⟩
    rw [hy2] at HX ⊢
    clear hy2
    match y2 with
    | .error (p, c) =>
      intro e w9 ho
      obtain ⟨rfl, hg⟩ := ho
      refine ⟨rfl, ?_⟩
      rw [HX.out]
      exact ⟨rfl, grown_trans' HF2.out.grown hg⟩
    | .ok r2 =>
      intro e w3 ho
      obtain ⟨rfl, hg, j2, hj2, hpa, hr2⟩ := ho
      have HF3 := Lib.hid (HF2.out.same hg hpa)
      have HT3 := Lib.hid (HT2.out.grown hg hB)
      subst hr2
      have H3 := Lib.hid (several_any B s gp j2 w3 HF3.out.pa hs hB HT3.out)
      clear hg hpa
      go_wp2_with fail
      refine H3.out.mono ?_
      clear H3
      obtain ⟨y3, hy3⟩ : ∃ y, sevS numT parT ((rem s j2).length + 1) (rem s j2) = y := ⟨_, rfl⟩
      rw [hy3] at HX ⊢
      clear hy3
      match y3 with
      | .error (p, c) =>
        intro e w9 ho
        obtain ⟨rfl, hg⟩ := ho
        refine ⟨rfl, ?_⟩
        rw [HX.out]
        exact ⟨rfl, grown_trans' HF3.out.grown hg⟩
      | .ok (hi, r3) =>
        intro e w4 ho
        obtain ⟨v, rfl, hN, hg, j3, hj3, hpa, hr3⟩ := ho
        obtain ⟨aH, cH, hao⟩ := own_slice hN.1
        subst hao
        have HF4 := Lib.hid (HF3.out.same hg hpa)
        obtain ⟨bs5, hoq5, hnd5⟩ := HF4.out.oq.high HF4.out.nd (own_le' hN.1 (show gq + 1 ≤ w3.heap.size from HF3.out.bq.lt)) (fun g hg hm => by have := (World.ownsRow.lt hN.1 g hg).1; have := HF3.out.lt g hm; omega)
        have c6 : w4.cell? ⟨gq, 6, none⟩ = some (.slice ah ([] : List Int).length ch) := by rw [HF4.out.bq.cell 6, HUS2.out]; rfl
        have z6 : w4.frozen? ⟨gq, 6, none⟩ = false := HF4.out.bq.frozen 6
        have HF5 := Lib.hid (HF4.out.set 6 _ hoq5 hnd5)
        obtain ⟨us5, hus5⟩ : ∃ u, us2.set 6 (.slice aH hi.length cH) = u := ⟨_, rfl⟩
        rw [hus5] at HF5
        have HUS5 : Hid (us5 = [.int .i64 7, .int .i64 0, .string f, .string emp, .string emp, .slice aL lo.length cL, .slice aH hi.length cH, .int .i64 0, .int .i64 0, .slice ak ([] : List QT).length ck]) := Lib.hid (by rw [← hus5, HUS2.out]; rfl)
        subst hr3
        clear hg hpa hN hoq5 hnd5 hus5
        go_upto_region 4 with fail
        generalize w4.setCell ⟨gq, 6, none⟩ (.slice aH hi.length cH) = w5 at *
        have HSK := Lib.hid (skip_any s gp j3 w5 HF5.out.pa hs)
        go_wp2_with fail
        refine HSK.out.mono ?_
        rintro e w6 ⟨rfl, hg, j4, hj4, hpa, hr4⟩
        rw [← hr4] at HX
        clear hr4
        have HF6 := Lib.hid (HF5.out.same hg hpa)
        have HLO := HUS5.out
        have c5 : w6.cell? ⟨gq, 5, none⟩ = some (.slice aL lo.length cL) := by rw [HF6.out.bq.cell 5, HUS5.out]; rfl
        have c6 : w6.cell? ⟨gq, 6, none⟩ = some (.slice aH hi.length cH) := by rw [HF6.out.bq.cell 6, HUS5.out]; rfl
        have hj4l := HF6.out.pa.le
        clear hg hpa HLO
        by_cases hne : lo.length = hi.length
        · have dn : (((lo.length : Nat) : Int) == ((hi.length : Nat) : Int)) = true := by rw [hne]; simp
          have dm : (((lo.length : Nat) : Int) != ((hi.length : Nat) : Int)) = false := by rw [bne, dn]; rfl
          by_cases h4 : 4 < lo.length
          · rw [if_pos (.inr h4)] at HX
            have d4 : decide ((4 : Int) < ((lo.length : Nat) : Int)) = true := decide_eq_true (by omega)
            clear hne h4
            go_upto_region 5 with fail
            go_quiet (fail)
            replace HF6 := Lib.hid (HF6.out.drewN nq)
            generalize w6.drewN nq = w6 at *
            have c1 : w6.cell? ⟨gp, 1, none⟩ = some (.int .i64 j4) := HF6.out.pa.blk.cell 1
            have HWR := Lib.hid (wrong_any j4 w6)
            go_wp2_with fail
            refine HWR.out.mono ?_
            rintro e w7 ⟨rfl, rfl⟩
            refine ⟨rfl, ?_⟩
            rw [HX.out]
            exact ⟨fault_at HF6.out.pa.le 180, HF6.out.grown⟩
          · rw [if_neg (by rintro (h | h); exact h hne; exact h4 h)] at HX
            have d4 : decide ((4 : Int) < ((lo.length : Nat) : Int)) = false := decide_eq_false (by omega)
            clear hne h4
            go_upto_region 5 with fail
            go_quiet (fail)
            go_wp2_with fail
            go_end0
            rw [HX.out]
            exact ⟨rfl, j4, _, _, by omega, rfl, HF6.out.drewN _⟩
        · rw [if_pos (.inl hne)] at HX
          have dn : (((lo.length : Nat) : Int) == ((hi.length : Nat) : Int)) = false := by rw [beq_eq_false_iff_ne]; omega
          have dm : (((lo.length : Nat) : Int) != ((hi.length : Nat) : Int)) = true := by rw [bne, dn]; rfl
          clear hne
          go_upto_region 5 with fail
          go_quiet (fail)
          replace HF6 := Lib.hid (HF6.out.drewN nq)
          generalize w6.drewN nq = w6 at *
          have c1 : w6.cell? ⟨gp, 1, none⟩ = some (.int .i64 j4) := HF6.out.pa.blk.cell 1
          have HWR := Lib.hid (wrong_any j4 w6)
          go_wp2_with fail
          refine HWR.out.mono ?_
          rintro e w7 ⟨rfl, rfl⟩
          refine ⟨rfl, ?_⟩
          rw [HX.out]
          exact ⟨fault_at HF6.out.pa.le 180, HF6.out.grown⟩
end Go.Proofs.YtinmiekbhoemjaaDoor.Qry
