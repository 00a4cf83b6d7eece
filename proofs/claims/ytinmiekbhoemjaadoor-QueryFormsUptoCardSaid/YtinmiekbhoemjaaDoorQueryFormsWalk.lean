/- The walk of QueryForms. Written by gen_forms.py. -/
import Derived.Test.YtinmiekbhoemjaaDoorQryRText
import Derived.Test.YtinmiekbhoemjaaDoorQryBulk
import Derived.Test.YtinmiekbhoemjaaDoorQryKeptQ
import Derived.Deep.RegionHeld3
set_option linter.unusedVariables false
namespace Go.Proofs.YtinmiekbhoemjaaDoor.QueryFormsWalk
open Go.RowKit Words Tree QryP Kit Owned Qry Sch

set_option maxRecDepth 100000 in
set_option maxHeartbeats 8000000 in
theorem walk (q : QT) (va : List Value) (w : World) (okq : Ok q) (ha : T.AtL bare w (fun g => g < w.heap.size) (cells q) va) (hl : (writeF numT q).length + 400 ≤ maxW) (hd : depthF q ≤ 1000000000) (hP : ∀ W, Below w.heap.size w W → Lib.TabIs Tryd.prog W "internal/strconv.uint64pow10" .u64 Lib.pow10Tab) :
    Calls Tryd.prog 3 #[.agg va.toArray] w (BoolB true w) := by
  have HL := Lib.hid (fun (W : World) (hW : Below w.heap.size w W) => lentQ_any _ q va W (Nat.le_refl _) okq (atL_ltw ha hW))
  have HR := Lib.hid (fun (W : World) (hW : Below w.heap.size w W) => And.intro (rFormed_any q va W okq (atL_ltw ha hW)) (And.intro (rdepth_any _ q va W (Nat.le_refl _) (atL_ltw ha hW) hd) (rtext_any q va W okq (atL_ltw ha hW) hl)))
  have HX := Lib.hid (fun (us : List Value) (W : World) (hx : T.AtL lent W (fun g => g < W.heap.size) (cells q) us) (V : World) (hV : Below W.heap.size W V) (hw : Below w.heap.size w V) =>
    have hx' := AtL.below (S' := fun g => g < V.heap.size) hx hV (fun g hg => Nat.lt_of_lt_of_le hg hV.size)
    And.intro (formed_any q us V okq (AtL.bare hx')) (And.intro (depth_any _ q us V (Nat.le_refl _) (AtL.bare hx') hd) (And.intro (text_any q us V okq (AtL.bare hx') (fun W hW => hP W (hw.trans (hW.mono hw.size))) (by omega)) (keptQ_any _ q us va V (Nat.le_refl _) okq hx' (atL_ltw ha hw)))))
  generalize formedB 0 q = rf at *
  generalize depthF q = rd at *
  generalize str (textQ numT q) = rt at *
  obtain ⟨kd, oc, f, t, u, lo, hi, b, op, ks⟩ := q
  obtain ⟨vl, vh, vk, rfl, hvl, hvh, hvk⟩ := at_cells ha
  obtain ⟨A1, c1, rfl⟩ := at_form' hvl
  obtain ⟨A2, c2, rfl⟩ := at_form' hvh
  obtain ⟨A, cA, rfl⟩ := at_form' hvk
  clear ha hvl hvh hvk okq hl hd hP
  go_enter Tryd.func3, Tryd.ntmps3
  go_wp2_with fail
  have hb0 : Below w.heap.size w (w.alloc (.cells #[.int .i64 kd, .int .i64 oc, .string f, .string t, .string u, .slice A1 lo.length c1, .slice A2 hi.length c2, .int .i64 b, .int .i64 op, .slice A ks.length cA] 25)) := (Below.refl _ w).alloc (Nat.le_refl _) _
  have HB0 := Lib.hid hb0
  have HQ0 := Lib.hid (Blk.new w 25 #[.int .i64 kd, .int .i64 oc, .string f, .string t, .string u, .slice A1 lo.length c1, .slice A2 hi.length c2, .int .i64 b, .int .i64 op, .slice A ks.length cA])
  refine (HL.out _ hb0).mono ?_
  rintro e W1 ⟨us, rfl, au, hb⟩
  have HAU := Lib.hid au
  obtain ⟨ul, uh, uk, rfl, hul, huh, huk⟩ := at_cells au
  obtain ⟨D1, d1, rfl⟩ := at_form' hul
  obtain ⟨D2, d2, rfl⟩ := at_form' huh
  obtain ⟨D, dA, rfl⟩ := at_form' huk
  have HB1 := Lib.hid (hb0.trans (hb.mono hb0.size))
  have HQ1 := Lib.hid (HQ0.out.below hb HQ0.out.lt)
  clear hb hb0 au hul huh huk
  go_upto_region 2 with fail
  have HQ2 := Lib.hid (Blk.new W1 25 #[.int .i64 kd, .int .i64 oc, .string f, .string t, .string u, .slice D1 lo.length d1, .slice D2 hi.length d2, .int .i64 b, .int .i64 op, .slice D ks.length dA])
  have HB2 := Lib.hid ((Below.refl W1.heap.size W1).alloc (Nat.le_refl _) (.cells #[.int .i64 kd, .int .i64 oc, .string f, .string t, .string u, .slice D1 lo.length d1, .slice D2 hi.length d2, .int .i64 b, .int .i64 op, .slice D ks.length dA] 25))
  have HBW := Lib.hid (HB1.out.trans (HB2.out.mono HB1.out.size))
  have HQ3 := Lib.hid (HQ1.out.below HB2.out HQ1.out.lt)
  have hlt1 : w.heap.size < W1.heap.size := HQ1.out.lt
  have HXX := Lib.hid (fun (V : World) (hV : Below (W1.heap.size + 1) (W1.alloc (.cells #[.int .i64 kd, .int .i64 oc, .string f, .string t, .string u, .slice D1 lo.length d1, .slice D2 hi.length d2, .int .i64 b, .int .i64 op, .slice D ks.length dA] 25)) V) => HX.out _ (W1.alloc (.cells #[.int .i64 kd, .int .i64 oc, .string f, .string t, .string u, .slice D1 lo.length d1, .slice D2 hi.length d2, .int .i64 b, .int .i64 op, .slice D ks.length dA] 25)) (AtL.keep (fun p hp => HB2.out.cell hp.2) (fun g hg => Nat.lt_of_lt_of_le hg.2 HB2.out.size) HAU.out) V (by rw [World.size_alloc]; exact hV) (HBW.out.trans (hV.mono (by have := HB1.out.size; omega))))
  have hz2 : ((W1.alloc (.cells #[.int .i64 kd, .int .i64 oc, .string f, .string t, .string u, .slice D1 lo.length d1, .slice D2 hi.length d2, .int .i64 b, .int .i64 op, .slice D ks.length dA] 25))).heap.size = W1.heap.size + 1 := by simp
  have HZ2 := Lib.hid hz2
  clear hz2 HAU HX HL HB1 HQ0 HQ1 HB2
  generalize (W1.alloc (.cells #[.int .i64 kd, .int .i64 oc, .string f, .string t, .string u, .slice D1 lo.length d1, .slice D2 hi.length d2, .int .i64 b, .int .i64 op, .slice D ks.length dA] 25)) = W2 at *
  have HRR := Lib.hid (fun (V : World) (hV : Below (W1.heap.size + 1) W2 V) => HR.out V (HBW.out.trans (hV.mono (by have := HZ2.out; omega))))
  clear HR
  refine wp_region_held_drew (S := fun V => Below (W1.heap.size + 1) W2 V) (by kernel_rfl) (Below.refl _ W2).drew (fun hSd0 => ?_)
  refine' wpAnyH_take (i := 0) (v := _) (by simp only [List.getElem?_toArray, List.getElem?_cons_zero]; rfl) (by kernel_rfl) (by kernel_rfl) (by kernel_rfl) (by exact fun _ _ _ h => h) (Or.inl ⟨by rfl, ?hyd0⟩) hSd0 ?restd0
  case hyd0 => intro V hSw; obtain ⟨a0, a1, a2, a3, a4, a5, a6, a7, a8, a9⟩ := tenB (HQ2.out.below hSw (by omega)); clear hSw; go_simp; try with_reducible rfl
  try simp only [Act.put, List.setIfInBounds_toArray, List.set_cons_zero, List.set_cons_succ]
  refine' wpAnyH_take (i := 2) (v := _) (by simp only [List.getElem?_toArray, List.getElem?_cons_succ, List.getElem?_cons_zero]; rfl) (by kernel_rfl) (by kernel_rfl) (by kernel_rfl) (by exact fun _ _ _ h => h) (Or.inl ⟨by rfl, ?hyd2⟩) hSd0 ?restd2
  case hyd2 => intro V hSw; obtain ⟨a0, a1, a2, a3, a4, a5, a6, a7, a8, a9⟩ := tenB (HQ3.out.below hSw (by omega)); clear hSw; go_simp; try with_reducible rfl
  try simp only [Act.put, List.setIfInBounds_toArray, List.set_cons_zero, List.set_cons_succ]
  refine wpAnyH_ready (rs := [1]) (by kernel_rfl) (by simp) ?_
  refine' AllReadyH.cons (by simp only [List.getElem?_toArray, List.getElem?_cons_succ, List.getElem?_cons_zero]; rfl) (fun KC hK => ?_) AllReadyH.nil
  go_simp
  refine ((HXX.out _ hSd0).1).mono ?_
  rintro e V1 ⟨rfl, hb⟩
  have hs1 : Below (W1.heap.size + 1) W2 V1 := hSd0.trans (hb.mono (by have := hSd0.size; have := HZ2.out; omega))
  clear hb
  go_simp
  refine hK.out _ _ hs1 (fun hSd1 => ?_)
  clear hK
  try simp only [Act.put, List.setIfInBounds_toArray, List.set_cons_zero, List.set_cons_succ]

  refine wpAnyH_ready (rs := [3]) (by kernel_rfl) (by simp) ?_
  refine' AllReadyH.cons (by simp only [List.getElem?_toArray, List.getElem?_cons_succ, List.getElem?_cons_zero]; rfl) (fun KC hK => ?_) AllReadyH.nil
  go_simp
  refine ((HRR.out _ hSd1).1).mono ?_
  rintro e V2 ⟨rfl, hb⟩
  have hs2 : Below (W1.heap.size + 1) W2 V2 := hSd1.trans (hb.mono (by have := hSd1.size; have := HZ2.out; omega))
  clear hb
  go_simp
  refine hK.out _ _ hs2 (fun hSd2 => ?_)
  clear hK
  try simp only [Act.put, List.setIfInBounds_toArray, List.set_cons_zero, List.set_cons_succ]
  refine' wpAnyH_take (i := 4) (v := _) (by simp only [List.getElem?_toArray, List.getElem?_cons_succ, List.getElem?_cons_zero]; rfl) (by kernel_rfl) (by kernel_rfl) (by kernel_rfl) (by exact fun _ _ _ h => h) (Or.inl ⟨by rfl, ?hyd4⟩) hSd2 ?restd4
  case hyd4 => intro V hSw; clear hSw; go_simp; try with_reducible rfl
  try simp only [Act.put, List.setIfInBounds_toArray, List.set_cons_zero, List.set_cons_succ]
  refine' wpAnyH_take (i := 5) (v := _) (by simp only [List.getElem?_toArray, List.getElem?_cons_succ, List.getElem?_cons_zero]; rfl) (by kernel_rfl) (by kernel_rfl) (by kernel_rfl) (by exact fun _ _ _ h => h) (Or.inl ⟨by rfl, ?hyd5⟩) hSd2 ?restd5
  case hyd5 => intro V hSw; clear hSw; go_simp; try with_reducible rfl
  try simp only [Act.put, List.setIfInBounds_toArray, List.set_cons_zero, List.set_cons_succ]
  refine' wpAnyH_take (i := 6) (v := _) (by simp only [List.getElem?_toArray, List.getElem?_cons_succ, List.getElem?_cons_zero]; rfl) (by kernel_rfl) (by kernel_rfl) (by kernel_rfl) (by exact fun _ _ _ h => h) (Or.inl ⟨by rfl, ?hyd6⟩) hSd2 ?restd6
  case hyd6 => intro V hSw; obtain ⟨a0, a1, a2, a3, a4, a5, a6, a7, a8, a9⟩ := tenB (HQ2.out.below hSw (by omega)); clear hSw; go_simp; try with_reducible rfl
  try simp only [Act.put, List.setIfInBounds_toArray, List.set_cons_zero, List.set_cons_succ]
  refine' wpAnyH_take (i := 8) (v := _) (by simp only [List.getElem?_toArray, List.getElem?_cons_succ, List.getElem?_cons_zero]; rfl) (by kernel_rfl) (by kernel_rfl) (by kernel_rfl) (by exact fun _ _ _ h => h) (Or.inl ⟨by rfl, ?hyd8⟩) hSd2 ?restd8
  case hyd8 => intro V hSw; obtain ⟨a0, a1, a2, a3, a4, a5, a6, a7, a8, a9⟩ := tenB (HQ3.out.below hSw (by omega)); clear hSw; go_simp; try with_reducible rfl
  try simp only [Act.put, List.setIfInBounds_toArray, List.set_cons_zero, List.set_cons_succ]
  refine wpAnyH_ready (rs := [7]) (by kernel_rfl) (by simp) ?_
  refine' AllReadyH.cons (by simp only [List.getElem?_toArray, List.getElem?_cons_succ, List.getElem?_cons_zero]; rfl) (fun KC hK => ?_) AllReadyH.nil
  go_simp
  refine ((HXX.out _ hSd2).2.1).mono ?_
  rintro e V3 ⟨rfl, hb⟩
  have hs3 : Below (W1.heap.size + 1) W2 V3 := hSd2.trans (hb.mono (by have := hSd2.size; have := HZ2.out; omega))
  clear hb
  go_simp
  refine hK.out _ _ hs3 (fun hSd3 => ?_)
  clear hK
  try simp only [Act.put, List.setIfInBounds_toArray, List.set_cons_zero, List.set_cons_succ]

  refine wpAnyH_ready (rs := [9]) (by kernel_rfl) (by simp) ?_
  refine' AllReadyH.cons (by simp only [List.getElem?_toArray, List.getElem?_cons_succ, List.getElem?_cons_zero]; rfl) (fun KC hK => ?_) AllReadyH.nil
  go_simp
  refine ((HRR.out _ hSd3).2.1).mono ?_
  rintro e V4 ⟨rfl, hb⟩
  have hs4 : Below (W1.heap.size + 1) W2 V4 := hSd3.trans (hb.mono (by have := hSd3.size; have := HZ2.out; omega))
  clear hb
  go_simp
  refine hK.out _ _ hs4 (fun hSd4 => ?_)
  clear hK
  try simp only [Act.put, List.setIfInBounds_toArray, List.set_cons_zero, List.set_cons_succ]
  refine' wpAnyH_take (i := 10) (v := _) (by simp only [List.getElem?_toArray, List.getElem?_cons_succ, List.getElem?_cons_zero]; rfl) (by kernel_rfl) (by kernel_rfl) (by kernel_rfl) (by exact fun _ _ _ h => h) (Or.inl ⟨by rfl, ?hyd10⟩) hSd4 ?restd10
  case hyd10 => intro V hSw; clear hSw; go_simp; try with_reducible rfl
  try simp only [Act.put, List.setIfInBounds_toArray, List.set_cons_zero, List.set_cons_succ]
  refine' wpAnyH_take (i := 11) (v := _) (by simp only [List.getElem?_toArray, List.getElem?_cons_succ, List.getElem?_cons_zero]; rfl) (by kernel_rfl) (by kernel_rfl) (by kernel_rfl) (by exact fun _ _ _ h => h) (Or.inl ⟨by rfl, ?hyd11⟩) hSd4 ?restd11
  case hyd11 => intro V hSw; clear hSw; go_simp; try with_reducible rfl
  try simp only [Act.put, List.setIfInBounds_toArray, List.set_cons_zero, List.set_cons_succ]
  refine' wpAnyH_take (i := 12) (v := _) (by simp only [List.getElem?_toArray, List.getElem?_cons_succ, List.getElem?_cons_zero]; rfl) (by kernel_rfl) (by kernel_rfl) (by kernel_rfl) (by exact fun _ _ _ h => h) (Or.inl ⟨by rfl, ?hyd12⟩) hSd4 ?restd12
  case hyd12 => intro V hSw; clear hSw; go_simp; try with_reducible rfl
  try simp only [Act.put, List.setIfInBounds_toArray, List.set_cons_zero, List.set_cons_succ]
  refine' wpAnyH_take (i := 13) (v := _) (by simp only [List.getElem?_toArray, List.getElem?_cons_succ, List.getElem?_cons_zero]; rfl) (by kernel_rfl) (by kernel_rfl) (by kernel_rfl) (by exact fun _ _ _ h => h) (Or.inl ⟨by rfl, ?hyd13⟩) hSd4 ?restd13
  case hyd13 => intro V hSw; obtain ⟨a0, a1, a2, a3, a4, a5, a6, a7, a8, a9⟩ := tenB (HQ2.out.below hSw (by omega)); clear hSw; go_simp; try with_reducible rfl
  try simp only [Act.put, List.setIfInBounds_toArray, List.set_cons_zero, List.set_cons_succ]
  refine' wpAnyH_take (i := 15) (v := _) (by simp only [List.getElem?_toArray, List.getElem?_cons_succ, List.getElem?_cons_zero]; rfl) (by kernel_rfl) (by kernel_rfl) (by kernel_rfl) (by exact fun _ _ _ h => h) (Or.inl ⟨by rfl, ?hyd15⟩) hSd4 ?restd15
  case hyd15 => intro V hSw; obtain ⟨a0, a1, a2, a3, a4, a5, a6, a7, a8, a9⟩ := tenB (HQ3.out.below hSw (by omega)); clear hSw; go_simp; try with_reducible rfl
  try simp only [Act.put, List.setIfInBounds_toArray, List.set_cons_zero, List.set_cons_succ]
  refine wpAnyH_ready (rs := [14]) (by kernel_rfl) (by simp) ?_
  refine' AllReadyH.cons (by simp only [List.getElem?_toArray, List.getElem?_cons_succ, List.getElem?_cons_zero]; rfl) (fun KC hK => ?_) AllReadyH.nil
  go_simp
  refine ((HXX.out _ hSd4).2.2.1).mono ?_
  rintro e V5 ⟨rfl, hb⟩
  have hs5 : Below (W1.heap.size + 1) W2 V5 := hSd4.trans (hb.mono (by have := hSd4.size; have := HZ2.out; omega))
  clear hb
  go_simp
  refine hK.out _ _ hs5 (fun hSd5 => ?_)
  clear hK
  try simp only [Act.put, List.setIfInBounds_toArray, List.set_cons_zero, List.set_cons_succ]

  refine wpAnyH_ready (rs := [16]) (by kernel_rfl) (by simp) ?_
  refine' AllReadyH.cons (by simp only [List.getElem?_toArray, List.getElem?_cons_succ, List.getElem?_cons_zero]; rfl) (fun KC hK => ?_) AllReadyH.nil
  go_simp
  refine ((HRR.out _ hSd5).2.2).mono ?_
  rintro e V6 ⟨rfl, hb⟩
  have hs6 : Below (W1.heap.size + 1) W2 V6 := hSd5.trans (hb.mono (by have := hSd5.size; have := HZ2.out; omega))
  clear hb
  go_simp
  refine hK.out _ _ hs6 (fun hSd6 => ?_)
  clear hK
  try simp only [Act.put, List.setIfInBounds_toArray, List.set_cons_zero, List.set_cons_succ]
  refine' wpAnyH_take (i := 17) (v := _) (by simp only [List.getElem?_toArray, List.getElem?_cons_succ, List.getElem?_cons_zero]; rfl) (by kernel_rfl) (by kernel_rfl) (by kernel_rfl) (by exact fun _ _ _ h => h) (Or.inl ⟨by rfl, ?hyd17⟩) hSd6 ?restd17
  case hyd17 => intro V hSw; clear hSw; go_simp; try with_reducible rfl
  try simp only [Act.put, List.setIfInBounds_toArray, List.set_cons_zero, List.set_cons_succ]
  refine' wpAnyH_take (i := 18) (v := _) (by simp only [List.getElem?_toArray, List.getElem?_cons_succ, List.getElem?_cons_zero]; rfl) (by kernel_rfl) (by kernel_rfl) (by kernel_rfl) (by exact fun _ _ _ h => h) (Or.inl ⟨by rfl, ?hyd18⟩) hSd6 ?restd18
  case hyd18 => intro V hSw; clear hSw; go_simp; try with_reducible rfl
  try simp only [Act.put, List.setIfInBounds_toArray, List.set_cons_zero, List.set_cons_succ]
  refine' wpAnyH_take (i := 19) (v := _) (by simp only [List.getElem?_toArray, List.getElem?_cons_succ, List.getElem?_cons_zero]; rfl) (by kernel_rfl) (by kernel_rfl) (by kernel_rfl) (by exact fun _ _ _ h => h) (Or.inl ⟨by rfl, ?hyd19⟩) hSd6 ?restd19
  case hyd19 => intro V hSw; clear hSw; go_simp; try with_reducible rfl
  try simp only [Act.put, List.setIfInBounds_toArray, List.set_cons_zero, List.set_cons_succ]
  refine' wpAnyH_take (i := 20) (v := _) (by simp only [List.getElem?_toArray, List.getElem?_cons_succ, List.getElem?_cons_zero]; rfl) (by kernel_rfl) (by kernel_rfl) (by kernel_rfl) (by exact fun _ _ _ h => h) (Or.inl ⟨by rfl, ?hyd20⟩) hSd6 ?restd20
  case hyd20 => intro V hSw; obtain ⟨a0, a1, a2, a3, a4, a5, a6, a7, a8, a9⟩ := tenB (HQ2.out.below hSw (by omega)); clear hSw; go_simp; try with_reducible rfl
  try simp only [Act.put, List.setIfInBounds_toArray, List.set_cons_zero, List.set_cons_succ]
  refine' wpAnyH_take (i := 21) (v := _) (by simp only [List.getElem?_toArray, List.getElem?_cons_succ, List.getElem?_cons_zero]; rfl) (by kernel_rfl) (by kernel_rfl) (by kernel_rfl) (by exact fun _ _ _ h => h) (Or.inl ⟨by rfl, ?hyd21⟩) hSd6 ?restd21
  case hyd21 => intro V hSw; obtain ⟨a0, a1, a2, a3, a4, a5, a6, a7, a8, a9⟩ := tenB (HQ3.out.below hSw (by omega)); clear hSw; go_simp; try with_reducible rfl
  try simp only [Act.put, List.setIfInBounds_toArray, List.set_cons_zero, List.set_cons_succ]
  refine wpAnyH_ready (rs := [22]) (by kernel_rfl) (by simp) ?_
  refine' AllReadyH.cons (by simp only [List.getElem?_toArray, List.getElem?_cons_succ, List.getElem?_cons_zero]; rfl) (fun KC hK => ?_) AllReadyH.nil
  go_simp
  refine ((HXX.out _ hSd6).2.2.2).mono ?_
  rintro e V7 ⟨rfl, hb⟩
  have hs7 : Below (W1.heap.size + 1) W2 V7 := hSd6.trans (hb.mono (by have := hSd6.size; have := HZ2.out; omega))
  clear hb
  go_simp
  refine hK.out _ _ hs7 (fun hSd7 => ?_)
  clear hK
  try simp only [Act.put, List.setIfInBounds_toArray, List.set_cons_zero, List.set_cons_succ]
  refine' wpAnyH_take (i := 23) (v := _) (by simp only [List.getElem?_toArray, List.getElem?_cons_succ, List.getElem?_cons_zero]; rfl) (by kernel_rfl) (by kernel_rfl) (by kernel_rfl) (by exact fun _ _ _ h => h) (Or.inl ⟨by rfl, ?hyd23⟩) hSd7 ?restd23
  case hyd23 => intro V hSw; clear hSw; go_simp; try with_reducible rfl
  try simp only [Act.put, List.setIfInBounds_toArray, List.set_cons_zero, List.set_cons_succ]
  refine' wpAnyH_take (i := 24) (v := _) (by simp only [List.getElem?_toArray, List.getElem?_cons_succ, List.getElem?_cons_zero]; rfl) (by kernel_rfl) (by kernel_rfl) (by kernel_rfl) (by exact fun _ _ _ h => h) (Or.inl ⟨by rfl, ?hyd24⟩) hSd7 ?restd24
  case hyd24 => intro V hSw; clear hSw; go_simp; try with_reducible rfl
  try simp only [Act.put, List.setIfInBounds_toArray, List.set_cons_zero, List.set_cons_succ]
  refine wpAnyH_done (by kernel_rfl) ?_ _
  have HE := Lib.hid (HBW.out.trans (hSd7.mono (by have := HZ2.out; omega)))
  go_wp2_with fail
  go_ret
  exact ⟨rfl, HE.out⟩
end Go.Proofs.YtinmiekbhoemjaaDoor.QueryFormsWalk
