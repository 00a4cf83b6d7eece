/- Contract: the program's Check of a schema. Contracts: asker.query, asker.all, query.Check. -/
import Derived.Test.YtinmiekbhoemjaaGreatDoorPack11
import Derived.Test.YtinmiekbhoemjaaGreatDoorPack10
import Derived.Test.YtinmiekbhoemjaaGreatDoorPack17
import Derived.Test.YtinmiekbhoemjaaGreatDoorPack38
import Derived.Test.YtinmiekbhoemjaaGreatDoorQckPage2
import Derived.Laws.EntriesVeiled
import Derived.Deep.CutBlock
section
set_option linter.unusedVariables false
namespace Go.Proofs.YtinmiekbhoemjaaGreatDoor.Sch
open Go.RowKit Words Tree SchP Kit Owned AnaP

/-- A field's name is found, at its own place or ahead of it. -/
theorem find_self {l : List FT} {k : Nat} (h : k < l.length) : ∃ j : Nat, j ≤ k ∧ findZ l l[k].name = j ∧ firstB l k = decide (j = k) := by
  cases hf : findF l l[k].name with
  | none => exact absurd rfl (findF_none hf _ (List.getElem_mem h))
  | some j =>
    obtain ⟨h1, h2, h3⟩ := findF_some hf
    refine ⟨j, ?_, by rw [findZ_eq, hf]; rfl, ?_⟩
    · rcases Nat.lt_or_ge k j with h4 | h4
      · exact absurd rfl (h3 k h4)
      · exact h4
    · rw [first_find h, hf]; simp

set_option maxRecDepth 100000 in
set_option maxHeartbeats 4000000 in
theorem checkS_any (u : Value) (l : List FT) (w : World) (hu : T.At bare w (fun g => g < w.heap.size) (fieldsT l) u) (hl : l.length * 72 ≤ 140737488351232) (hf : ∀ f ∈ l, FOk f) :
    Calls Tryz.prog 12 #[.agg #[u]] w (IntB (errS (checkS l)) w) := by
  have HFI := Lib.hid (fun (s : ByteArray) (W : World) (hW : Below w.heap.size w W) => find_any u l s W (At.below hu hW (fun g hg => Nat.lt_of_lt_of_le hg hW.size)) hl)
  obtain ⟨A, cap, rfl, hc, hm, hel⟩ := at_row fcells_len hu
  have EL := Lib.hid hel
  have HF := Lib.hid hf
  obtain ⟨r, hr⟩ : ∃ r, checkS l = r := ⟨_, rfl⟩
  have HR := Lib.hid hr
  rw [hr]
  clear hel hu hf hr
  rcases (show l.length = 0 ∨ 16 < l.length ∨ (1 ≤ l.length ∧ l.length ≤ 16) by omega) with h0 | h0 | ⟨h0, h1⟩
  · have HRF : Hid (r = false) := Lib.hid (by rw [← HR.out, checkS, h0]; simp)
    rw [h0]
    clear EL HFI HF HR
    go_enter Tryz.func12, Tryz.ntmps12
    go_wp2_with fail
    go_ret
    rw [HRF.out]
    exact ⟨rfl, (Below.refl _ _).alloc (Nat.le_refl _) _⟩
  · have HRF : Hid (r = false) := Lib.hid (by rw [← HR.out, checkS]; simp; omega)
    have h2 : ¬ l.length < 1 := by omega
    have a1 : decide ((l.length : Int) < 1) = false := by rw [decide_eq_false_iff_not]; omega
    have a2 : decide ((16 : Int) < l.length) = true := by rw [decide_eq_true_iff]; omega
    go_enter Tryz.func12, Tryz.ntmps12
    go_wp2_with fail
    go_ret
    rw [HRF.out]
    exact ⟨rfl, (Below.refl _ _).alloc (Nat.le_refl _) _⟩
  have HRQ : Hid (r = okTo l l.length) := Lib.hid (by rw [← HR.out, checkS, decide_eq_true h0, decide_eq_true h1]; simp)
  have a1 : decide ((l.length : Int) < 1) = false := by rw [decide_eq_false_iff_not]; omega
  have a2 : decide ((16 : Int) < l.length) = false := by rw [decide_eq_false_iff_not]; omega
  clear HR
  go_enter Tryz.func12, Tryz.ntmps12
  go_wp2_with fail
  have HB := Lib.hid ((Below.refl _ w).alloc (Nat.le_refl _) (Obj.cells #[.slice A l.length cap] 24))
  have BA := Lib.hid (Blk.new w 24 #[.slice A l.length cap])
  have hzW : (w.alloc (Obj.cells #[.slice A l.length cap] 24)).heap.size = w.heap.size + 1 := by simp
  generalize w.alloc (Obj.cells #[.slice A l.length cap] 24) = W at *
  go_loopw [20] (fun i wr => ∃ k : Nat, k ≤ l.length ∧ i = .int .i64 k ∧ Hid (okTo l k = true) ∧ Hid (Below W.heap.size W wr)) (fun i _ => l.length - (intOf i).toNat)
  case atStart => exact ⟨0, by omega, rfl, Lib.hid (okTo_zero l), Lib.hid (Below.refl _ _)⟩
  case round =>
    obtain ⟨k, hkk, rfl, HK, HW⟩ := hrel
    have BA2 := Lib.hid (BA.out.below HW.out (by omega))
    have hcA : wr.cell? ⟨w.heap.size, 0, none⟩ = some (.slice A l.length cap) := BA2.out.cell 0
    have hzr := HW.out.size
    have HWW : Hid (Below w.heap.size w wr) := Lib.hid (HB.out.trans (HW.out.mono HB.out.size))
    by_cases hlt : k < l.length
    · obtain ⟨ad, us, rfl, hba, au, lu, cu⟩ := EL.out k hlt
      replace cu := cu.keep (w' := wr) (fun p hp => HWW.out.cell (by rw [hp, block_of_add]; exact hba))
      have hab : (ad.add (k * 7)).block < wr.heap.size := by rw [block_of_add]; omega
      have hok := HF.out _ (List.getElem_mem hlt)
      have HS : Hid (okTo l (k + 1) = (firstB l k && mayB l[k])) := Lib.hid (by rw [okTo_succ, HK.out, okAt_eq hlt]; simp)
      have HNO : Hid ((firstB l k && mayB l[k]) = false → r = false) := Lib.hid (fun h => by rw [HRQ.out]; exact okTo_no (by rw [okAt_eq hlt]; exact h) hlt)
      obtain ⟨j, hjk, hfz, hfb⟩ := find_self hlt
      rw [hfb] at HS HNO
      generalize l[k] = f at *
      obtain ⟨vc, rfl, gc⟩ := at_fcells au
      have HM := Lib.hid (fun (V : World) (hV : Below w.heap.size w V) => may_any f vc V (At.below gc hV (fun g hg => Nat.lt_of_lt_of_le hg hV.size)) hok)
      obtain ⟨X, z, rfl, _, _⟩ := at_slice gc
      have HFC := Lib.hid (fun (V : World) (hV : Below w.heap.size w V) => HFI.out f.name V hV)
      rw [hfz] at HFC
      obtain ⟨a0, a1', a2', a3, a4, a5, a6⟩ := seven cu
      clear cu au lu gc hok hfz hfb
      obtain ⟨f0, f1, f2, f3, f4, f5, f6⟩ := f
      dsimp only at *
      have hw1 : w.heap.size < wr.heap.size := by omega
      obtain ⟨b, hb⟩ : ∃ b, mayB ⟨f0, f1, f2, f3, f4, f5, f6⟩ = b := ⟨_, rfl⟩
      rw [hb] at HM HS HNO
      clear hb
      go_wp2_with fail
      refine (HFC.out _ (HWW.out.alloc HWW.out.size _)).mono ?_
      rintro e W1 ⟨rfl, b1⟩
      have HB1 := Lib.hid (((Below.refl _ wr).alloc (Nat.le_refl _) _).trans (b1.mono (by simp)) : Below wr.heap.size wr W1)
      have BF := Lib.hid ((Blk.new wr _ _).below b1 (by simp))
      obtain ⟨p0, p1, p2, p3, p4, p5, p6⟩ := blk7 BF.out
      have hmx : max 0 (j : Int) = j := by omega
      have hdx : decide (0 ≤ (j : Int)) = true := decide_eq_true (by omega)
      rw [hmx, hdx]
      clear b1 a0 a1' a2' a3 a4 a5 a6 hcA hmx hdx
      by_cases hj : j = k
      · subst hj
        have hbk : ((j : Int) != (j : Int)) = false := by simp
        go_wp2_with fail
        refine (HM.out _ (HWW.out.trans (HB1.out.mono HWW.out.size))).mono ?_
        rintro e W2 ⟨rfl, b2⟩
        have HB2 := Lib.hid (HB1.out.trans (b2.mono HB1.out.size))
        clear b2
        cases b with
        | true =>
          go_wp2_with fail
          go_roundw
          case rel => exact ⟨j + 1, by omega, by go_num, Lib.hid (by rw [HS.out]; simp), Lib.hid (HW.out.trans (HB2.out.mono HW.out.size))⟩
          case measure => simp [intOf]; omega
        | false =>
          have HN : Hid (r = false) := Lib.hid (HNO.out (by simp))
          go_wp2_with fail
          go_ret
          rw [HN.out]
          exact ⟨rfl, HWW.out.trans (HB2.out.mono HWW.out.size)⟩
      · have hbk : ((j : Int) != (k : Int)) = true := by rw [bne_iff_ne]; omega
        have HN : Hid (r = false) := Lib.hid (HNO.out (by rw [decide_eq_false hj]; rfl))
        go_wp2_with fail
        go_ret
        rw [HN.out]
        exact ⟨rfl, HWW.out.trans (HB1.out.mono HWW.out.size)⟩
    · obtain rfl : k = l.length := by omega
      have HT : Hid (r = true) := Lib.hid (by rw [HRQ.out, HK.out])
      go_wp2_with fail
      go_ret
      rw [HT.out]
      exact ⟨rfl, HWW.out⟩
end Go.Proofs.YtinmiekbhoemjaaGreatDoor.Sch
end
section
set_option linter.unusedVariables false
namespace Go.Proofs.YtinmiekbhoemjaaGreatDoor.Qck
open Go.RowKit Words Tree SchP QckP Kit Owned Sch Qry QryP FoldNext AnaP Ana
/-- The cells of a request: a query's ten, and six. -/
theorem at_rcells {sent : Nat → List (List Value)} {w : World} {S : Nat → Prop} {r : ReqT} {vs : List Value} (h : T.AtL sent w S (rcells r) vs) :
    ∃ qs v1 v2 v5 v6, vs = qs ++ [v1, v2, .int .i64 r.size, .string r.collapse, v5, v6] ∧ T.AtL sent w S (cells r.query) qs ∧ T.At sent w S (rowT 3 scells r.sort) v1 ∧ T.At sent w S (rowT 2 cucells r.after) v2 ∧ T.At sent w S (rowT 7 acells r.aggs) v5 ∧ T.At sent w S (rowT 1 strcells r.fields) v6 := by
  rw [rcells] at h
  obtain ⟨h1, h2⟩ := AtL.split h
  refine ⟨vs.take (cells r.query).length, ?_⟩
  have e := (List.take_append_drop (cells r.query).length vs).symm
  generalize vs.drop (cells r.query).length = us at *
  rw [tailT] at h2
  obtain ⟨v0, r, rfl, g0, h⟩ := AtL.cons_ h2
  obtain ⟨v1, r, rfl, g1, h⟩ := AtL.cons_ h
  obtain ⟨v2, r, rfl, g2, h⟩ := AtL.cons_ h
  obtain ⟨v3, r, rfl, g3, h⟩ := AtL.cons_ h
  obtain ⟨v4, r, rfl, g4, h⟩ := AtL.cons_ h
  obtain ⟨v5, r, rfl, g5, h⟩ := AtL.cons_ h
  obtain rfl := AtL.nil_ h
  simp only [T.At] at g2 g3
  subst g2 g3
  exact ⟨v0, v1, v4, v5, e, h1, g0, g1, g4, g5⟩
/-- What asks, in memory: its schema, and the request. -/
structure As (w : World) (ga : Nat) (l : List FT) (r : ReqT) : Prop where
  sk : Sk w ga l
  body : ∃ v0 v1 v2 v3 v4 v5 v6 v7 v8 v9 v10 v11 v12 v13 v14 v15 v16 : Value, Blk w ga 51 #[v0, v1, v2, v3, v4, v5, v6, v7, v8, v9, v10, v11, v12, v13, v14, v15, v16] ∧ T.AtL bare w (fun g => g < w.heap.size) (cells r.query) [v1, v2, v3, v4, v5, v6, v7, v8, v9, v10] ∧
    T.At bare w (fun g => g < w.heap.size) (rowT 3 scells r.sort) v11 ∧ T.At bare w (fun g => g < w.heap.size) (rowT 2 cucells r.after) v12 ∧ v13 = .int .i64 r.size ∧ v14 = .string r.collapse ∧ T.At bare w (fun g => g < w.heap.size) (rowT 7 acells r.aggs) v15 ∧ T.At bare w (fun g => g < w.heap.size) (rowT 1 strcells r.fields) v16
theorem As.below {w w' : World} {ga : Nat} {l : List FT} {r : ReqT} (h : As w ga l r) (hb : Below w.heap.size w w') : As w' ga l r := by
  obtain ⟨hs, v0, v1, v2, v3, v4, v5, v6, v7, v8, v9, v10, v11, v12, v13, v14, v15, v16, h1, h2, h3, h4, h5, h6, h7, h8⟩ := h
  have hm : ∀ g, g < w.heap.size → g < w'.heap.size := fun g hg => Nat.lt_of_lt_of_le hg hb.size
  exact ⟨hs.below hb, v0, v1, v2, v3, v4, v5, v6, v7, v8, v9, v10, v11, v12, v13, v14, v15, v16, h1.below hb h1.lt, AtL.below h2 hb hm, At.below h3 hb hm, At.below h4 hb hm, h5, h6, At.below h7 hb hm, At.below h8 hb hm⟩
/-- The six questions. -/
def sixL (l : List FT) (r : ReqT) : List Int := [partF l 0 0 r.query, sortF l r.sort, collF l r.collapse, pageF r.size r.sort.length r.after, aggsF l 0 [] r.aggs, fieldsF l r.fields]
def firstL : List Int → Int
  | [] => 0
  | e :: l => orE e (firstL l)
theorem orE_zero (e : Int) : orE e 0 = e := by
  rw [orE]; split
  · rename_i h; exact h.symm
  · rfl
theorem checkR_six (l : List FT) (r : ReqT) : checkR l r = orE (errS (checkS l)) (firstL (sixL l r)) := by
  rw [checkR, sixL]
  simp only [firstL, orE_zero]
section
variable (ga : Nat) (l : List FT) (r : ReqT) (w : World)
set_option maxRecDepth 100000 in
set_option maxHeartbeats 4000000 in
theorem ask0_any (h : As w ga l r) (hr : ROk r) (hT : Tabs w) : Calls Tryz.prog 13 #[.pointer (some ⟨ga, 0, none⟩)] w (Sch.IntB (partF l 0 0 r.query) w) := by
  obtain ⟨hs, v0, v1, v2, v3, v4, v5, v6, v7, v8, v9, v10, v11, v12, v13, v14, v15, v16, h1, h2, h3, h4, h5, h6, h7, h8⟩ := h
  have HP := Lib.hid (part_any ga l _ r.query [v1, v2, v3, v4, v5, v6, v7, v8, v9, v10] 0 0 w (Nat.le_refl _) (by omega) hr.query h2 hs hT)
  have hga := h1.lt
  have c1 : w.cell? ⟨ga, 1, none⟩ = some v1 := h1.cell 1
  have c2 : w.cell? ⟨ga, 2, none⟩ = some v2 := h1.cell 2
  have c3 : w.cell? ⟨ga, 3, none⟩ = some v3 := h1.cell 3
  have c4 : w.cell? ⟨ga, 4, none⟩ = some v4 := h1.cell 4
  have c5 : w.cell? ⟨ga, 5, none⟩ = some v5 := h1.cell 5
  have c6 : w.cell? ⟨ga, 6, none⟩ = some v6 := h1.cell 6
  have c7 : w.cell? ⟨ga, 7, none⟩ = some v7 := h1.cell 7
  have c8 : w.cell? ⟨ga, 8, none⟩ = some v8 := h1.cell 8
  have c9 : w.cell? ⟨ga, 9, none⟩ = some v9 := h1.cell 9
  have c10 : w.cell? ⟨ga, 10, none⟩ = some v10 := h1.cell 10
  clear h1 h2 h3 h4 h7 h8 hs hr hT
  generalize partF l 0 0 r.query = e0 at *
  go_enter Tryz.func13, Tryz.ntmps13
  go_wp2_with fail
  refine HP.out.mono ?_
  rintro e w2 ⟨rfl, hb⟩
  have HB := Lib.hid hb
  clear hb c1 c2 c3 c4 c5 c6 c7 c8 c9 c10
  go_wp2_with fail
  go_ret
  exact ⟨rfl, HB.out⟩
theorem ask1_any (h : As w ga l r) (hr : ROk r) : Calls Tryz.prog 14 #[.pointer (some ⟨ga, 0, none⟩)] w (Sch.IntB (sortF l r.sort) w) := by
  obtain ⟨hs, v0, v1, v2, v3, v4, v5, v6, v7, v8, v9, v10, v11, v12, v13, v14, v15, v16, h1, h2, h3, h4, h5, h6, h7, h8⟩ := h
  exact sort_any ga l r.sort v11 w hs (h1.cell 11) h3 hr.sort.1
theorem ask2_any (h : As w ga l r) (hr : ROk r) : Calls Tryz.prog 15 #[.pointer (some ⟨ga, 0, none⟩)] w (Sch.IntB (collF l r.collapse) w) := by
  obtain ⟨hs, v0, v1, v2, v3, v4, v5, v6, v7, v8, v9, v10, v11, v12, v13, v14, v15, v16, h1, h2, h3, h4, h5, h6, h7, h8⟩ := h
  subst h6
  exact collapse_any ga l r.collapse w hs (h1.cell 14)
theorem ask3_any (h : As w ga l r) (hr : ROk r) : Calls Tryz.prog 16 #[.pointer (some ⟨ga, 0, none⟩)] w (Sch.IntB (pageF r.size r.sort.length r.after) w) := by
  obtain ⟨hs, v0, v1, v2, v3, v4, v5, v6, v7, v8, v9, v10, v11, v12, v13, v14, v15, v16, h1, h2, h3, h4, h5, h6, h7, h8⟩ := h
  subst h5
  obtain ⟨U, cS, rfl, _⟩ := at_slice h3
  exact page_any ga r.size U r.sort.length cS r.after v12 w hs.1 (h1.cell 11) (h1.cell 12) (h1.cell 13) h4 hr.after (by have := hr.sort.1; omega)
set_option maxRecDepth 100000 in
set_option maxHeartbeats 4000000 in
theorem ask4_any (h : As w ga l r) (hr : ROk r) : Calls Tryz.prog 17 #[.pointer (some ⟨ga, 0, none⟩)] w (Sch.IntB (aggsF l 0 [] r.aggs) w) := by
  obtain ⟨hs, v0, v1, v2, v3, v4, v5, v6, v7, v8, v9, v10, v11, v12, v13, v14, v15, v16, h1, h2, h3, h4, h5, h6, h7, h8⟩ := h
  obtain ⟨A, cap, rfl, hc, hm, hA⟩ := akeys_of h7
  have HP := Lib.hid (aggs_any ga l 3 0 r.aggs A cap w (by omega) hs hA hr.aggs.1 hc hm hr.aggs.2)
  have hga := h1.lt
  have c15 : w.cell? ⟨ga, 15, none⟩ = some (.slice A r.aggs.length cap) := h1.cell 15
  clear h1 h2 h3 h4 h7 h8 hs hr hA
  generalize aggsF l 0 [] r.aggs = e0 at *
  go_enter Tryz.func17, Tryz.ntmps17
  go_wp2_with fail
  refine HP.out.mono ?_
  rintro e w2 ⟨rfl, hb⟩
  have HB := Lib.hid hb
  clear hb c15
  go_wp2_with fail
  go_ret
  exact ⟨rfl, HB.out⟩
theorem ask5_any (h : As w ga l r) (hr : ROk r) : Calls Tryz.prog 18 #[.pointer (some ⟨ga, 0, none⟩)] w (Sch.IntB (fieldsF l r.fields) w) := by
  obtain ⟨hs, v0, v1, v2, v3, v4, v5, v6, v7, v8, v9, v10, v11, v12, v13, v14, v15, v16, h1, h2, h3, h4, h5, h6, h7, h8⟩ := h
  exact fields_any ga l r.fields v16 w hs (h1.cell 16) h8 hr.fields.1
end
def askN : Nat → Nat
  | 0 => 13
  | 1 => 14
  | 2 => 15
  | 3 => 16
  | 4 => 17
  | _ => 18
/-- Any of the six. -/
theorem six_any (ga : Nat) (l : List FT) (r : ReqT) (w : World) (h : As w ga l r) (hr : ROk r) (hT : Tabs w) (k : Nat) (hk : k < (sixL l r).length) : Calls Tryz.prog (askN k) #[.pointer (some ⟨ga, 0, none⟩)] w (Sch.IntB (sixL l r)[k] w) := by
  match k, hk with
  | 0, _ => exact ask0_any ga l r w h hr hT
  | 1, _ => exact ask1_any ga l r w h hr
  | 2, _ => exact ask2_any ga l r w h hr
  | 3, _ => exact ask3_any ga l r w h hr
  | 4, _ => exact ask4_any ga l r w h hr
  | 5, _ => exact ask5_any ga l r w h hr
theorem firstL_drop (l : List Int) (k : Nat) (h : k < l.length) : firstL (l.drop k) = orE l[k] (firstL (l.drop (k + 1))) := by
  rw [List.drop_eq_getElem_cons h, firstL]
set_option maxRecDepth 100000 in
set_option maxHeartbeats 4000000 in
/-- query.Check. -/
theorem check_any (u : Value) (l : List FT) (r : ReqT) (vs : List Value) (w : World) (hu : T.At bare w (fun g => g < w.heap.size) (fieldsT l) u) (hl : l.length * 72 ≤ 140737488351232) (hf : ∀ f ∈ l, FOk f) (hv : T.AtL bare w (fun g => g < w.heap.size) (rcells r) vs) (hr : ROk r) (hT : Tabs w) :
    Calls Tryz.prog 6 #[.agg #[u], .agg vs.toArray] w (Sch.IntB (checkR l r) w) := by
  obtain ⟨e0, he0⟩ : ∃ e, checkR l r = e := ⟨_, rfl⟩
  have HR : Hid (orE (errS (checkS l)) (firstL ((sixL l r).drop 0)) = e0) := Lib.hid (by rw [List.drop_zero, ← checkR_six, he0])
  rw [he0]
  have HS := Lib.hid (fun (W : World) (hW : Below w.heap.size w W) => checkS_any u l W (At.below hu hW (fun g hg => Nat.lt_of_lt_of_le hg hW.size)) hl hf)
  have HQ := Lib.hid (fun (ga : Nat) (W : World) (ha : As W ga l r) (hW : Below w.heap.size w W) => six_any ga l r W ha hr (hT.next hW))
  have HU := Lib.hid hu
  have HV := Lib.hid hv
  obtain ⟨A, cap, rfl, hc, hm⟩ := at_slice hu
  obtain ⟨qs, v11, v12, v15, v16, rfl, hq, h3, h4, h7, h8⟩ := at_rcells hv
  have HL : Hid ((sixL l r).length = 6) := Lib.hid rfl
  obtain ⟨⟨kd, oc, f, t, up, lo, hi, b, op, ks⟩, so, af, sz, co, ag, fl⟩ := r
  dsimp only at *
  obtain ⟨vl, vh, vk, rfl, hvl, hvh, hvk⟩ := at_cells hq
  obtain ⟨A1, c1, rfl, _⟩ := at_ints hvl
  obtain ⟨A2, c2, rfl, _⟩ := at_ints hvh
  obtain ⟨A3, c3, rfl⟩ := at_sl hvk
  obtain ⟨A4, c4, rfl, _⟩ := at_slice h3
  obtain ⟨A5, c5, rfl, _⟩ := at_slice h4
  obtain ⟨A6, c6, rfl, _⟩ := at_slice h7
  obtain ⟨A7, c7, rfl, _⟩ := at_slice h8
  simp only [List.cons_append, List.nil_append] at *
  -- what asks, once it is laid
  have HAS : Hid (∀ (ga : Nat) (W : World), Below w.heap.size w W → Blk W ga 51 #[.slice A l.length cap, .int .i64 kd, .int .i64 oc, .string f, .string t, .string up, .slice A1 lo.length c1, .slice A2 hi.length c2, .int .i64 b, .int .i64 op, .slice A3 ks.length c3, .slice A4 so.length c4, .slice A5 af.length c5, .int .i64 sz, .string co, .slice A6 ag.length c6, .slice A7 fl.length c7] → As W ga l ⟨.mk kd oc f t up lo hi b op ks, so, af, sz, co, ag, fl⟩) := Lib.hid (fun ga W hW hb => by
    have hm : ∀ g, g < w.heap.size → g < W.heap.size := fun g hg => Nat.lt_of_lt_of_le hg hW.size
    exact ⟨⟨hb.lt, hl, _, hb.cell 0, At.below hu hW hm⟩, _, _, _, _, _, _, _, _, _, _, _, _, _, _, _, _, _, hb, AtL.below hq hW hm, At.below h3 hW hm, At.below h4 hW hm, rfl, rfl, At.below h7 hW hm, At.below h8 hW hm⟩)
  clear hq hvl hvh hvk h3 h4 h7 h8 hu hv HU HV hf hr he0 hT
  generalize sixL l ⟨.mk kd oc f t up lo hi b op ks, so, af, sz, co, ag, fl⟩ = six at *
  generalize (⟨.mk kd oc f t up lo hi b op ks, so, af, sz, co, ag, fl⟩ : ReqT) = rq at *
  have hmf : ∀ (fn : Fn) (first cap : Array Value) (w : World), (Instr.makeFunc fn first cap).run Tryz.prog w = .ok (.func fn first cap) w := fun _ _ _ _ => rfl
  have hb1 := ((Below.refl w.heap.size w).alloc (Nat.le_refl _) (Obj.cells #[.slice A l.length cap] 24)).alloc (by simp) (Obj.cells #[.int .i64 kd, .int .i64 oc, .string f, .string t, .string up, .slice A1 lo.length c1, .slice A2 hi.length c2, .int .i64 b, .int .i64 op, .slice A3 ks.length c3, .slice A4 so.length c4, .slice A5 af.length c5, .int .i64 sz, .string co, .slice A6 ag.length c6, .slice A7 fl.length c7] 34)
  have bs1 := (Blk.new w 24 #[.slice A l.length cap]).alloc (Obj.cells #[.int .i64 kd, .int .i64 oc, .string f, .string t, .string up, .slice A1 lo.length c1, .slice A2 hi.length c2, .int .i64 b, .int .i64 op, .slice A3 ks.length c3, .slice A4 so.length c4, .slice A5 af.length c5, .int .i64 sz, .string co, .slice A6 ag.length c6, .slice A7 fl.length c7] 34)
  have br1 := Blk.new (w.alloc (Obj.cells #[.slice A l.length cap] 24)) 34 #[.int .i64 kd, .int .i64 oc, .string f, .string t, .string up, .slice A1 lo.length c1, .slice A2 hi.length c2, .int .i64 b, .int .i64 op, .slice A3 ks.length c3, .slice A4 so.length c4, .slice A5 af.length c5, .int .i64 sz, .string co, .slice A6 ag.length c6, .slice A7 fl.length c7]
  rw [show (w.alloc (Obj.cells #[.slice A l.length cap] 24)).heap.size = w.heap.size + 1 by simp] at br1
  have HB1 := Lib.hid hb1
  have BS1 := Lib.hid bs1
  have BR1 := Lib.hid br1
  clear hb1 bs1 br1
  go_enter Tryz.func6, Tryz.ntmps6
  go_upto_region 1 with fail
  generalize (w.alloc (Obj.cells #[.slice A l.length cap] 24)).alloc (Obj.cells #[.int .i64 kd, .int .i64 oc, .string f, .string t, .string up, .slice A1 lo.length c1, .slice A2 hi.length c2, .int .i64 b, .int .i64 op, .slice A3 ks.length c3, .slice A4 so.length c4, .slice A5 af.length c5, .int .i64 sz, .string co, .slice A6 ag.length c6, .slice A7 fl.length c7] 34) = w1 at *
  have s0 : w1.cell? ⟨w.heap.size, 0, none⟩ = some (.slice A l.length cap) := BS1.out.cell 0
  go_wp2_with fail
  refine (HS.out _ HB1.out).mono ?_
  rintro e w2 ⟨rfl, hb⟩
  have HB2 := Lib.hid (HB1.out.trans (hb.mono HB1.out.size))
  have BS2 := Lib.hid (BS1.out.below hb BS1.out.lt)
  have BR2 := Lib.hid (BR1.out.below hb BR1.out.lt)
  clear hb s0 HB1 BS1 BR1 HS
  generalize errS (checkS l) = es at *
  by_cases he : es = 0
  · subst he
    have HR1 : Hid (firstL (six.drop 0) = e0) := Lib.hid HR.out
    have s0 : w2.cell? ⟨w.heap.size, 0, none⟩ = some (.slice A l.length cap) := BS2.out.cell 0
    have hz := BR2.out.lt
    have r0 : w2.cell? ⟨w.heap.size + 1, 0, none⟩ = some (.int .i64 kd) := BR2.out.cell 0
    have r1 : w2.cell? ⟨w.heap.size + 1, 1, none⟩ = some (.int .i64 oc) := BR2.out.cell 1
    have r2 : w2.cell? ⟨w.heap.size + 1, 2, none⟩ = some (.string f) := BR2.out.cell 2
    have r3 : w2.cell? ⟨w.heap.size + 1, 3, none⟩ = some (.string t) := BR2.out.cell 3
    have r4 : w2.cell? ⟨w.heap.size + 1, 4, none⟩ = some (.string up) := BR2.out.cell 4
    have r5 : w2.cell? ⟨w.heap.size + 1, 5, none⟩ = some (.slice A1 lo.length c1) := BR2.out.cell 5
    have r6 : w2.cell? ⟨w.heap.size + 1, 6, none⟩ = some (.slice A2 hi.length c2) := BR2.out.cell 6
    have r7 : w2.cell? ⟨w.heap.size + 1, 7, none⟩ = some (.int .i64 b) := BR2.out.cell 7
    have r8 : w2.cell? ⟨w.heap.size + 1, 8, none⟩ = some (.int .i64 op) := BR2.out.cell 8
    have r9 : w2.cell? ⟨w.heap.size + 1, 9, none⟩ = some (.slice A3 ks.length c3) := BR2.out.cell 9
    have r10 : w2.cell? ⟨w.heap.size + 1, 10, none⟩ = some (.slice A4 so.length c4) := BR2.out.cell 10
    have r11 : w2.cell? ⟨w.heap.size + 1, 11, none⟩ = some (.slice A5 af.length c5) := BR2.out.cell 11
    have r12 : w2.cell? ⟨w.heap.size + 1, 12, none⟩ = some (.int .i64 sz) := BR2.out.cell 12
    have r13 : w2.cell? ⟨w.heap.size + 1, 13, none⟩ = some (.string co) := BR2.out.cell 13
    have r14 : w2.cell? ⟨w.heap.size + 1, 14, none⟩ = some (.slice A6 ag.length c6) := BR2.out.cell 14
    have r15 : w2.cell? ⟨w.heap.size + 1, 15, none⟩ = some (.slice A7 fl.length c7) := BR2.out.cell 15
    go_upto_region 5 with fail
    have HAS3 := Lib.hid (HAS.out w2.heap.size (w2.alloc (Obj.cells #[.slice A l.length cap, .int .i64 kd, .int .i64 oc, .string f, .string t, .string up, .slice A1 lo.length c1, .slice A2 hi.length c2, .int .i64 b, .int .i64 op, .slice A3 ks.length c3, .slice A4 so.length c4, .slice A5 af.length c5, .int .i64 sz, .string co, .slice A6 ag.length c6, .slice A7 fl.length c7] 51)) (HB2.out.alloc HB2.out.size _) (Blk.new w2 _ _))
    have HB3 := Lib.hid (HB2.out.alloc HB2.out.size (Obj.cells #[.slice A l.length cap, .int .i64 kd, .int .i64 oc, .string f, .string t, .string up, .slice A1 lo.length c1, .slice A2 hi.length c2, .int .i64 b, .int .i64 op, .slice A3 ks.length c3, .slice A4 so.length c4, .slice A5 af.length c5, .int .i64 sz, .string co, .slice A6 ag.length c6, .slice A7 fl.length c7] 51))
    generalize w2.alloc (Obj.cells #[.slice A l.length cap, .int .i64 kd, .int .i64 oc, .string f, .string t, .string up, .slice A1 lo.length c1, .slice A2 hi.length c2, .int .i64 b, .int .i64 op, .slice A3 ks.length c3, .slice A4 so.length c4, .slice A5 af.length c5, .int .i64 sz, .string co, .slice A6 ag.length c6, .slice A7 fl.length c7] 51) = W3 at *
    generalize w2.heap.size = ga at *
    have HG3 : Hid (w.heap.size ≤ W3.heap.size) := Lib.hid HB3.out.size
    clear r0 r1 r2 r3 r4 r5 r6 r7 r8 r9 r10 r11 r12 r13 r14 r15 s0 hz HAS
    go_upto_block 0 with fail
    have HQW : Hid (∀ W, Below W3.heap.size W3 W → ∀ (k : Nat) (hk : k < six.length), Calls Tryz.prog (askN k) #[.pointer (some ⟨ga, 0, none⟩)] W (Sch.IntB six[k] W)) := Lib.hid (fun W hW => HQ.out ga W (HAS3.out.below hW) (HB3.out.trans (hW.mono HB3.out.size)))
    have HB4 := Lib.hid ((Below.refl W3.heap.size W3).alloc (Nat.le_refl _) (Obj.cells #[.func (.func 13) #[.pointer (some ⟨ga, 0, none⟩)] #[], .func (.func 14) #[.pointer (some ⟨ga, 0, none⟩)] #[], .func (.func 15) #[.pointer (some ⟨ga, 0, none⟩)] #[], .func (.func 16) #[.pointer (some ⟨ga, 0, none⟩)] #[], .func (.func 17) #[.pointer (some ⟨ga, 0, none⟩)] #[], .func (.func 18) #[.pointer (some ⟨ga, 0, none⟩)] #[]] 52))
    have BF4 := Lib.hid (Blk.new W3 52 #[.func (.func 13) #[.pointer (some ⟨ga, 0, none⟩)] #[], .func (.func 14) #[.pointer (some ⟨ga, 0, none⟩)] #[], .func (.func 15) #[.pointer (some ⟨ga, 0, none⟩)] #[], .func (.func 16) #[.pointer (some ⟨ga, 0, none⟩)] #[], .func (.func 17) #[.pointer (some ⟨ga, 0, none⟩)] #[], .func (.func 18) #[.pointer (some ⟨ga, 0, none⟩)] #[]])
    generalize W3.alloc (Obj.cells #[.func (.func 13) #[.pointer (some ⟨ga, 0, none⟩)] #[], .func (.func 14) #[.pointer (some ⟨ga, 0, none⟩)] #[], .func (.func 15) #[.pointer (some ⟨ga, 0, none⟩)] #[], .func (.func 16) #[.pointer (some ⟨ga, 0, none⟩)] #[], .func (.func 17) #[.pointer (some ⟨ga, 0, none⟩)] #[], .func (.func 18) #[.pointer (some ⟨ga, 0, none⟩)] #[]] 52) = W4 at *
    have hgw4 : W3.heap.size ≤ W4.heap.size := HB4.out.size
    generalize W3.heap.size = gf at *
    have HQ4 : Hid (∀ W, Below W4.heap.size W4 W → ∀ (k : Nat) (hk : k < six.length), Calls Tryz.prog (askN k) #[.pointer (some ⟨ga, 0, none⟩)] W (Sch.IntB six[k] W)) := Lib.hid (fun W hW => HQW.out W (HB4.out.trans (hW.mono hgw4)))
    have HBW : Hid (∀ W, Below W4.heap.size W4 W → Below w.heap.size w W) := Lib.hid (fun W hW => HB3.out.trans ((HB4.out.trans (hW.mono hgw4)).mono HG3.out))
    have HBF : Hid (∀ W, Below W4.heap.size W4 W → Blk W gf 52 #[.func (.func 13) #[.pointer (some ⟨ga, 0, none⟩)] #[], .func (.func 14) #[.pointer (some ⟨ga, 0, none⟩)] #[], .func (.func 15) #[.pointer (some ⟨ga, 0, none⟩)] #[], .func (.func 16) #[.pointer (some ⟨ga, 0, none⟩)] #[], .func (.func 17) #[.pointer (some ⟨ga, 0, none⟩)] #[], .func (.func 18) #[.pointer (some ⟨ga, 0, none⟩)] #[]]) := Lib.hid (fun W hW => BF4.out.below hW BF4.out.lt)
    generalize (Value.agg #[.slice A l.length cap]) = va
    generalize (Value.agg #[.int .i64 kd, .int .i64 oc, .string f, .string t, .string up, .slice A1 lo.length c1, .slice A2 hi.length c2, .int .i64 b, .int .i64 op, .slice A3 ks.length c3, .slice A4 so.length c4, .slice A5 af.length c5, .int .i64 sz, .string co, .slice A6 ag.length c6, .slice A7 fl.length c7]) = vb
    generalize (Value.agg #[.slice A l.length cap, .int .i64 kd, .int .i64 oc, .string f, .string t, .string up, .slice A1 lo.length c1, .slice A2 hi.length c2, .int .i64 b, .int .i64 op, .slice A3 ks.length c3, .slice A4 so.length c4, .slice A5 af.length c5, .int .i64 sz, .string co, .slice A6 ag.length c6, .slice A7 fl.length c7]) = vc
    clear HQW BF4 HB4 HAS3 BS2 BR2 HQ HR
    go_wp2_with fail
    go_loopw [33] (fun i wr => ∃ k : Nat, k ≤ 6 ∧ i = .int .i64 k ∧ Hid (firstL (six.drop k) = e0) ∧ Hid (Below W4.heap.size W4 wr)) (fun i _ => 6 - (intOf i).toNat)
    case atStart => exact ⟨0, by omega, rfl, HR1, Lib.hid (Below.refl _ _)⟩
    case round =>
      obtain ⟨k, hk6, rfl, HK, HW⟩ := hrel
      by_cases hlt : k < 6
      · have hk2 : k < six.length := by rw [HL.out]; exact hlt
        have HD := Lib.hid ((firstL_drop six k hk2).symm.trans HK.out)
        have HCK := Lib.hid (HQ4.out wr HW.out k hk2)
        have HZW := HW.out.size
        generalize six[k] = ek at *
        have HF := Lib.hid (HBF.out wr HW.out)
        rcases (show k = 0 ∨ k = 1 ∨ k = 2 ∨ k = 3 ∨ k = 4 ∨ k = 5 by omega) with rfl | rfl | rfl | rfl | rfl | rfl
        · have c0 : wr.cell? ⟨gf, 0, none⟩ = some (.func (.func 13) #[.pointer (some ⟨ga, 0, none⟩)] #[]) := HF.out.cell 0
          clear HF
          go_wp2_with fail
          refine HCK.out.mono ?_
          rintro e w8 ⟨rfl, hb⟩
          have HB8 := Lib.hid (HW.out.trans (hb.mono HZW))
          clear hb c0
          by_cases he0 : ek = 0
          · subst he0
            have HZ : Hid (firstL (six.drop (0 + 1)) = e0) := Lib.hid HD.out
            go_wp2_with fail
            go_roundw
            case rel => exact ⟨0 + 1, by omega, by go_num, HZ, HB8⟩
            case measure => simp [intOf]
          · have hee : (ek != (0 : Int)) = true := by rw [bne_iff_ne]; exact he0
            have HZ : Hid (e0 = ek) := Lib.hid (by rw [← HD.out, orE, if_neg he0])
            clear he0
            go_wp2_with fail
            go_ret
            rw [HZ.out]
            exact ⟨rfl, HBW.out _ HB8.out⟩
        · have c1 : wr.cell? ⟨gf, 1, none⟩ = some (.func (.func 14) #[.pointer (some ⟨ga, 0, none⟩)] #[]) := HF.out.cell 1
          clear HF
          go_wp2_with fail
          refine HCK.out.mono ?_
          rintro e w8 ⟨rfl, hb⟩
          have HB8 := Lib.hid (HW.out.trans (hb.mono HZW))
          clear hb c1
          by_cases he0 : ek = 0
          · subst he0
            have HZ : Hid (firstL (six.drop (1 + 1)) = e0) := Lib.hid HD.out
            go_wp2_with fail
            go_roundw
            case rel => exact ⟨1 + 1, by omega, by go_num, HZ, HB8⟩
            case measure => simp [intOf]
          · have hee : (ek != (0 : Int)) = true := by rw [bne_iff_ne]; exact he0
            have HZ : Hid (e0 = ek) := Lib.hid (by rw [← HD.out, orE, if_neg he0])
            clear he0
            go_wp2_with fail
            go_ret
            rw [HZ.out]
            exact ⟨rfl, HBW.out _ HB8.out⟩
        · have c2 : wr.cell? ⟨gf, 2, none⟩ = some (.func (.func 15) #[.pointer (some ⟨ga, 0, none⟩)] #[]) := HF.out.cell 2
          clear HF
          go_wp2_with fail
          refine HCK.out.mono ?_
          rintro e w8 ⟨rfl, hb⟩
          have HB8 := Lib.hid (HW.out.trans (hb.mono HZW))
          clear hb c2
          by_cases he0 : ek = 0
          · subst he0
            have HZ : Hid (firstL (six.drop (2 + 1)) = e0) := Lib.hid HD.out
            go_wp2_with fail
            go_roundw
            case rel => exact ⟨2 + 1, by omega, by go_num, HZ, HB8⟩
            case measure => simp [intOf]
          · have hee : (ek != (0 : Int)) = true := by rw [bne_iff_ne]; exact he0
            have HZ : Hid (e0 = ek) := Lib.hid (by rw [← HD.out, orE, if_neg he0])
            clear he0
            go_wp2_with fail
            go_ret
            rw [HZ.out]
            exact ⟨rfl, HBW.out _ HB8.out⟩
        · have c3 : wr.cell? ⟨gf, 3, none⟩ = some (.func (.func 16) #[.pointer (some ⟨ga, 0, none⟩)] #[]) := HF.out.cell 3
          clear HF
          go_wp2_with fail
          refine HCK.out.mono ?_
          rintro e w8 ⟨rfl, hb⟩
          have HB8 := Lib.hid (HW.out.trans (hb.mono HZW))
          clear hb c3
          by_cases he0 : ek = 0
          · subst he0
            have HZ : Hid (firstL (six.drop (3 + 1)) = e0) := Lib.hid HD.out
            go_wp2_with fail
            go_roundw
            case rel => exact ⟨3 + 1, by omega, by go_num, HZ, HB8⟩
            case measure => simp [intOf]
          · have hee : (ek != (0 : Int)) = true := by rw [bne_iff_ne]; exact he0
            have HZ : Hid (e0 = ek) := Lib.hid (by rw [← HD.out, orE, if_neg he0])
            clear he0
            go_wp2_with fail
            go_ret
            rw [HZ.out]
            exact ⟨rfl, HBW.out _ HB8.out⟩
        · have c4 : wr.cell? ⟨gf, 4, none⟩ = some (.func (.func 17) #[.pointer (some ⟨ga, 0, none⟩)] #[]) := HF.out.cell 4
          clear HF
          go_wp2_with fail
          refine HCK.out.mono ?_
          rintro e w8 ⟨rfl, hb⟩
          have HB8 := Lib.hid (HW.out.trans (hb.mono HZW))
          clear hb c4
          by_cases he0 : ek = 0
          · subst he0
            have HZ : Hid (firstL (six.drop (4 + 1)) = e0) := Lib.hid HD.out
            go_wp2_with fail
            go_roundw
            case rel => exact ⟨4 + 1, by omega, by go_num, HZ, HB8⟩
            case measure => simp [intOf]
          · have hee : (ek != (0 : Int)) = true := by rw [bne_iff_ne]; exact he0
            have HZ : Hid (e0 = ek) := Lib.hid (by rw [← HD.out, orE, if_neg he0])
            clear he0
            go_wp2_with fail
            go_ret
            rw [HZ.out]
            exact ⟨rfl, HBW.out _ HB8.out⟩
        · have c5 : wr.cell? ⟨gf, 5, none⟩ = some (.func (.func 18) #[.pointer (some ⟨ga, 0, none⟩)] #[]) := HF.out.cell 5
          clear HF
          go_wp2_with fail
          refine HCK.out.mono ?_
          rintro e w8 ⟨rfl, hb⟩
          have HB8 := Lib.hid (HW.out.trans (hb.mono HZW))
          clear hb c5
          by_cases he0 : ek = 0
          · subst he0
            have HZ : Hid (firstL (six.drop (5 + 1)) = e0) := Lib.hid HD.out
            go_wp2_with fail
            go_roundw
            case rel => exact ⟨5 + 1, by omega, by go_num, HZ, HB8⟩
            case measure => simp [intOf]
          · have hee : (ek != (0 : Int)) = true := by rw [bne_iff_ne]; exact he0
            have HZ : Hid (e0 = ek) := Lib.hid (by rw [← HD.out, orE, if_neg he0])
            clear he0
            go_wp2_with fail
            go_ret
            rw [HZ.out]
            exact ⟨rfl, HBW.out _ HB8.out⟩
      · obtain rfl : k = 6 := by omega
        have HZ : Hid (e0 = 0) := Lib.hid (by rw [← HK.out, List.drop_eq_nil_of_le (by rw [HL.out]; exact Nat.le_refl _), firstL])
        go_wp2_with fail
        go_ret
        rw [HZ.out]
        exact ⟨rfl, HBW.out _ HW.out⟩
  · have hee : (es != (0 : Int)) = true := by rw [bne_iff_ne]; exact he
    have HZ : Hid (e0 = es) := Lib.hid (by rw [← HR.out, orE, if_neg he])
    clear he
    go_wp2_with fail
    go_ret
    rw [HZ.out]
    exact ⟨rfl, HB2.out⟩
end Go.Proofs.YtinmiekbhoemjaaGreatDoor.Qck
end
