/- Contract: the document's write, a kind at a time. Written by gen_rwrite.py. -/
import Derived.Test.YtinmiekbhoemjaaDoorQryRWD
import Derived.Deep.RegionHeld3
set_option linter.unusedVariables false
namespace Go.Proofs.YtinmiekbhoemjaaDoor.Qry
open Go.RowKit Words Tree QryP Kit Owned

section
variable {oc : Int} {f t u : ByteArray} {lo hi : List Int} {bo op : Int} {ks : List QT} {L Hh Kd : Option Addr} {cl ch ck : Nat} {w : World}
set_option maxRecDepth 100000 in
set_option maxHeartbeats 16000000 in
theorem rwrite_1 (h : RAsk 1 oc f t u lo hi bo op ks L Hh Kd ck w) :
    Calls Tryd.prog 28 #[.agg #[.int .i64 1, .int .i64 oc, .string f, .string t, .string u, .slice L lo.length cl, .slice Hh hi.length ch, .int .i64 bo, .int .i64 op, .slice Kd ks.length ck]] w (RowBX (writeF numT (.mk 1 oc f t u lo hi bo op ks)) w) := by
  have HA := Lib.hid h
  obtain ⟨i0, hi1, hi2, hi3, hi4⟩ := info_parts infoU8
  obtain ⟨j0, hj1, hj2, hj3, hj4⟩ := info_parts infoS8
  have HI := Lib.hid (And.intro hi1 (And.intro hi2 (And.intro hi3 hi4)))
  have HJ := Lib.hid (And.intro hj1 (And.intro hj2 (And.intro hj3 hj4)))
  clear hi1 hi2 hi3 hi4 hj1 hj2 hj3 hj4
  have HOK : Hid (f.size ≤ 140737488351232 ∧ t.size ≤ 140737488351232 ∧ u.size ≤ 140737488351232 ∧ (lo.length * 8 ≤ 140737488351232 ∧ ∀ z ∈ lo, I64 z) ∧ (hi.length * 8 ≤ 140737488351232 ∧ ∀ z ∈ hi, I64 z) ∧ I64 bo ∧ ks.length * 152 ≤ 140737488351232) := Lib.hid (by
    cases h.ok with
    | mk _ _ a1 a2 a3 a4 a5 a6 _ a7 _ => exact ⟨a1, a2, a3, a4, a5, a6, a7⟩)
  have HWF : Hid (writeF numT (.mk 1 oc f t u lo hi bo op ks) = wordF 1) := Lib.hid (by rw [writeF, if_pos (by decide)])
  clear h
  go_enter Tryd.func28, Tryd.ntmps28
  go_upto_region 1 with fail
  have HQ0 := Lib.hid (Blk.new w 25 #[.int .i64 1, .int .i64 oc, .string f, .string t, .string u, .slice L lo.length cl, .slice Hh hi.length ch, .int .i64 bo, .int .i64 op, .slice Kd ks.length ck])
  have HW0 := Lib.hid ((Below.refl _ w).alloc (Nat.le_refl _) (.cells #[.int .i64 1, .int .i64 oc, .string f, .string t, .string u, .slice L lo.length cl, .slice Hh hi.length ch, .int .i64 bo, .int .i64 op, .slice Kd ks.length ck] 25))
  have hz0 : (w.alloc (.cells #[.int .i64 1, .int .i64 oc, .string f, .string t, .string u, .slice L lo.length cl, .slice Hh hi.length ch, .int .i64 bo, .int .i64 op, .slice Kd ks.length ck] 25)).heap.size = w.heap.size + 1 := by simp
  generalize (w.alloc (.cells #[.int .i64 1, .int .i64 oc, .string f, .string t, .string u, .slice L lo.length cl, .slice Hh hi.length ch, .int .i64 bo, .int .i64 op, .slice Kd ks.length ck] 25)) = W0 at *
  refine wp_region_held_drew (S := fun V => Below W0.heap.size W0 V) (by kernel_rfl) (Below.refl _ W0).drew (fun hSd0 => ?_)
  refine' wpAnyH_take (i := 1) (v := _) (by simp only [List.getElem?_toArray, List.getElem?_cons_succ, List.getElem?_cons_zero]; rfl) (by kernel_rfl) (by kernel_rfl) (by kernel_rfl) (by exact fun _ _ _ h => h) (Or.inl ⟨by rfl, ?hyd1⟩) hSd0 ?restd1
  case hyd1 => intro V hSw; clear hSw; go_simp; try with_reducible rfl
  try simp only [Act.put, List.setIfInBounds_toArray, List.set_cons_zero, List.set_cons_succ]
  refine' wpAnyH_take (i := 2) (v := _) (by simp only [List.getElem?_toArray, List.getElem?_cons_succ, List.getElem?_cons_zero]; rfl) (by kernel_rfl) (by kernel_rfl) (by kernel_rfl) (by exact fun _ _ _ h => h) (Or.inl ⟨by rfl, ?hyd2⟩) hSd0 ?restd2
  case hyd2 => intro V hSw; have fq := (HQ0.out.below hSw HQ0.out.lt).cell 0; clear hSw; go_simp; try with_reducible rfl
  try simp only [Act.put, List.setIfInBounds_toArray, List.set_cons_zero, List.set_cons_succ]
  refine wpAnyH_ready (rs := [0]) (by kernel_rfl) (by simp) ?_
  refine' AllReadyH.cons (by simp only [List.getElem?_toArray, List.getElem?_cons_zero]; rfl) (fun KC hK => ?_) AllReadyH.nil
  go_simp
  refine (rwords_any _).mono ?_
  rintro e V1 ⟨rfl, hb, hc⟩
  have hc : V1.cell? ⟨w.heap.size + 1, 1, none⟩ = some (.string (str (wordF 1))) := by rw [← hz0]; exact hc 1 (by decide) (by decide)
  have hs1 : Below W0.heap.size W0 V1 := hSd0.trans (hb.mono hSd0.size)
  clear hb
  go_simp
  refine hK.out _ _ hs1 (fun hSd1 => ?_)
  clear hK hs1
  try simp only [Act.put, List.setIfInBounds_toArray, List.set_cons_zero, List.set_cons_succ]
  refine' wpAnyH_take (i := 3) (v := _) (by simp only [List.getElem?_toArray, List.getElem?_cons_succ, List.getElem?_cons_zero]; rfl) (by kernel_rfl) (by kernel_rfl) (by kernel_rfl) (by exact fun _ _ _ h => h) (Or.inl ⟨by rfl, ?hyd3⟩) hSd1 ?restd3
  case hyd3 => intro V hSw; clear hSw; go_simp; try with_reducible rfl
  try simp only [Act.put, List.setIfInBounds_toArray, List.set_cons_zero, List.set_cons_succ]
  refine wpAnyH_ready (rs := [4]) (by kernel_rfl) (by simp) ?_
  refine' AllReadyH.cons (by simp only [List.getElem?_toArray, List.getElem?_cons_succ, List.getElem?_cons_zero]; rfl) (fun KC hK => ?_) AllReadyH.nil
  go_simp
  refine hK.out _ _ hSd1 (fun hSd2 => ?_)
  clear hK
  try simp only [Act.put, List.setIfInBounds_toArray, List.set_cons_zero, List.set_cons_succ]
  refine wpAnyH_ready (rs := [5]) (by kernel_rfl) (by simp) ?_
  refine' AllReadyH.cons (by simp only [List.getElem?_toArray, List.getElem?_cons_succ, List.getElem?_cons_zero]; rfl) (fun KC hK => ?_) AllReadyH.nil
  have hcv := Lib.run_convert_string_bytes (P := Tryd.prog) V1 9 43 5 (str (wordF 1)) (u := .string) Tryd.underlying9 Tryd.underlying43 Tryd.underlying5
  have hox := ownX_bytes V1 w.heap.size 5 (str (wordF 1)) (by have := hSd1.size; omega) (by decide)
  have hbb := below_bytes V1 5 (str (wordF 1))
  generalize Lib.bytesWorld V1 5 (str (wordF 1)) = W1 at *
  go_simp
  have hs1 : Below W0.heap.size W0 W1 := hSd1.trans (hbb.mono hSd1.size)
  refine hK.out _ _ hs1 (fun hSd3 => ?_)
  clear hK
  try simp only [Act.put, List.setIfInBounds_toArray, List.set_cons_zero, List.set_cons_succ]
  refine' wpAnyH_take (i := 6) (v := _) (by simp only [List.getElem?_toArray, List.getElem?_cons_succ, List.getElem?_cons_zero]; rfl) (by kernel_rfl) (by kernel_rfl) (by kernel_rfl) (by exact fun _ _ _ h => h) (Or.inl ⟨by rfl, ?hyd6⟩) hSd3 ?restd6
  case hyd6 => intro V hSw; clear hSw; go_simp; try with_reducible rfl
  try simp only [Act.put, List.setIfInBounds_toArray, List.set_cons_zero, List.set_cons_succ]
  refine wpAnyH_done (by kernel_rfl) ?_ _
  obtain ⟨ab, cb, hab⟩ := hox.slice
  have HB : Hid (OwnX W1 w.heap.size 5 1 (.slice ab (wordF 1).length cb) (wordF 1).length (Lib.byteCells (wordF 1))) := Lib.hid (by rw [hab] at hox; exact hox)
  rw [hab]
  have HBl : Hid (∀ g, (Value.slice ab (wordF 1).length cb).ownBlock = some g → g < W1.heap.size) := Lib.hid (fun g hg => (HB.out.lt g hg).2)
  clear hSd0 hSd1 hSd2 hSd3 hcv hab hox hbb hc
  have HQ1 := Lib.hid (HQ0.out.below hs1 HQ0.out.lt)
  have HW1 := Lib.hid (HW0.out.trans (hs1.mono HW0.out.size))
  have hz1 : w.heap.size + 1 ≤ W1.heap.size := HQ1.out.lt
  clear hs1 hz0
  obtain ⟨c0, c1, c2, c3, c4, c5, c6, c7, c8, c9⟩ := tenB HQ1.out
  go_wp2_with fail
  go_ret
  exact ⟨_, rfl, by rw [HWF.out]; exact HB.out, HW1.out⟩
set_option maxRecDepth 100000 in
set_option maxHeartbeats 16000000 in
theorem rwrite_2 (h : RAsk 2 oc f t u lo hi bo op ks L Hh Kd ck w) :
    Calls Tryd.prog 28 #[.agg #[.int .i64 2, .int .i64 oc, .string f, .string t, .string u, .slice L lo.length cl, .slice Hh hi.length ch, .int .i64 bo, .int .i64 op, .slice Kd ks.length ck]] w (RowBX (writeF numT (.mk 2 oc f t u lo hi bo op ks)) w) := by
  have HA := Lib.hid h
  obtain ⟨i0, hi1, hi2, hi3, hi4⟩ := info_parts infoU8
  obtain ⟨j0, hj1, hj2, hj3, hj4⟩ := info_parts infoS8
  have HI := Lib.hid (And.intro hi1 (And.intro hi2 (And.intro hi3 hi4)))
  have HJ := Lib.hid (And.intro hj1 (And.intro hj2 (And.intro hj3 hj4)))
  clear hi1 hi2 hi3 hi4 hj1 hj2 hj3 hj4
  have HOK : Hid (f.size ≤ 140737488351232 ∧ t.size ≤ 140737488351232 ∧ u.size ≤ 140737488351232 ∧ (lo.length * 8 ≤ 140737488351232 ∧ ∀ z ∈ lo, I64 z) ∧ (hi.length * 8 ≤ 140737488351232 ∧ ∀ z ∈ hi, I64 z) ∧ I64 bo ∧ ks.length * 152 ≤ 140737488351232) := Lib.hid (by
    cases h.ok with
    | mk _ _ a1 a2 a3 a4 a5 a6 _ a7 _ => exact ⟨a1, a2, a3, a4, a5, a6, a7⟩)
  have HWF : Hid (writeF numT (.mk 2 oc f t u lo hi bo op ks) = wordF 2) := Lib.hid (by rw [writeF, if_pos (by decide)])
  clear h
  go_enter Tryd.func28, Tryd.ntmps28
  go_upto_region 1 with fail
  have HQ0 := Lib.hid (Blk.new w 25 #[.int .i64 2, .int .i64 oc, .string f, .string t, .string u, .slice L lo.length cl, .slice Hh hi.length ch, .int .i64 bo, .int .i64 op, .slice Kd ks.length ck])
  have HW0 := Lib.hid ((Below.refl _ w).alloc (Nat.le_refl _) (.cells #[.int .i64 2, .int .i64 oc, .string f, .string t, .string u, .slice L lo.length cl, .slice Hh hi.length ch, .int .i64 bo, .int .i64 op, .slice Kd ks.length ck] 25))
  have hz0 : (w.alloc (.cells #[.int .i64 2, .int .i64 oc, .string f, .string t, .string u, .slice L lo.length cl, .slice Hh hi.length ch, .int .i64 bo, .int .i64 op, .slice Kd ks.length ck] 25)).heap.size = w.heap.size + 1 := by simp
  generalize (w.alloc (.cells #[.int .i64 2, .int .i64 oc, .string f, .string t, .string u, .slice L lo.length cl, .slice Hh hi.length ch, .int .i64 bo, .int .i64 op, .slice Kd ks.length ck] 25)) = W0 at *
  refine wp_region_held_drew (S := fun V => Below W0.heap.size W0 V) (by kernel_rfl) (Below.refl _ W0).drew (fun hSd0 => ?_)
  refine' wpAnyH_take (i := 1) (v := _) (by simp only [List.getElem?_toArray, List.getElem?_cons_succ, List.getElem?_cons_zero]; rfl) (by kernel_rfl) (by kernel_rfl) (by kernel_rfl) (by exact fun _ _ _ h => h) (Or.inl ⟨by rfl, ?hyd1⟩) hSd0 ?restd1
  case hyd1 => intro V hSw; clear hSw; go_simp; try with_reducible rfl
  try simp only [Act.put, List.setIfInBounds_toArray, List.set_cons_zero, List.set_cons_succ]
  refine' wpAnyH_take (i := 2) (v := _) (by simp only [List.getElem?_toArray, List.getElem?_cons_succ, List.getElem?_cons_zero]; rfl) (by kernel_rfl) (by kernel_rfl) (by kernel_rfl) (by exact fun _ _ _ h => h) (Or.inl ⟨by rfl, ?hyd2⟩) hSd0 ?restd2
  case hyd2 => intro V hSw; have fq := (HQ0.out.below hSw HQ0.out.lt).cell 0; clear hSw; go_simp; try with_reducible rfl
  try simp only [Act.put, List.setIfInBounds_toArray, List.set_cons_zero, List.set_cons_succ]
  refine wpAnyH_ready (rs := [0]) (by kernel_rfl) (by simp) ?_
  refine' AllReadyH.cons (by simp only [List.getElem?_toArray, List.getElem?_cons_zero]; rfl) (fun KC hK => ?_) AllReadyH.nil
  go_simp
  refine (rwords_any _).mono ?_
  rintro e V1 ⟨rfl, hb, hc⟩
  have hc : V1.cell? ⟨w.heap.size + 1, 2, none⟩ = some (.string (str (wordF 2))) := by rw [← hz0]; exact hc 2 (by decide) (by decide)
  have hs1 : Below W0.heap.size W0 V1 := hSd0.trans (hb.mono hSd0.size)
  clear hb
  go_simp
  refine hK.out _ _ hs1 (fun hSd1 => ?_)
  clear hK hs1
  try simp only [Act.put, List.setIfInBounds_toArray, List.set_cons_zero, List.set_cons_succ]
  refine' wpAnyH_take (i := 3) (v := _) (by simp only [List.getElem?_toArray, List.getElem?_cons_succ, List.getElem?_cons_zero]; rfl) (by kernel_rfl) (by kernel_rfl) (by kernel_rfl) (by exact fun _ _ _ h => h) (Or.inl ⟨by rfl, ?hyd3⟩) hSd1 ?restd3
  case hyd3 => intro V hSw; clear hSw; go_simp; try with_reducible rfl
  try simp only [Act.put, List.setIfInBounds_toArray, List.set_cons_zero, List.set_cons_succ]
  refine wpAnyH_ready (rs := [4]) (by kernel_rfl) (by simp) ?_
  refine' AllReadyH.cons (by simp only [List.getElem?_toArray, List.getElem?_cons_succ, List.getElem?_cons_zero]; rfl) (fun KC hK => ?_) AllReadyH.nil
  go_simp
  refine hK.out _ _ hSd1 (fun hSd2 => ?_)
  clear hK
  try simp only [Act.put, List.setIfInBounds_toArray, List.set_cons_zero, List.set_cons_succ]
  refine wpAnyH_ready (rs := [5]) (by kernel_rfl) (by simp) ?_
  refine' AllReadyH.cons (by simp only [List.getElem?_toArray, List.getElem?_cons_succ, List.getElem?_cons_zero]; rfl) (fun KC hK => ?_) AllReadyH.nil
  have hcv := Lib.run_convert_string_bytes (P := Tryd.prog) V1 9 43 5 (str (wordF 2)) (u := .string) Tryd.underlying9 Tryd.underlying43 Tryd.underlying5
  have hox := ownX_bytes V1 w.heap.size 5 (str (wordF 2)) (by have := hSd1.size; omega) (by decide)
  have hbb := below_bytes V1 5 (str (wordF 2))
  generalize Lib.bytesWorld V1 5 (str (wordF 2)) = W1 at *
  go_simp
  have hs1 : Below W0.heap.size W0 W1 := hSd1.trans (hbb.mono hSd1.size)
  refine hK.out _ _ hs1 (fun hSd3 => ?_)
  clear hK
  try simp only [Act.put, List.setIfInBounds_toArray, List.set_cons_zero, List.set_cons_succ]
  refine' wpAnyH_take (i := 6) (v := _) (by simp only [List.getElem?_toArray, List.getElem?_cons_succ, List.getElem?_cons_zero]; rfl) (by kernel_rfl) (by kernel_rfl) (by kernel_rfl) (by exact fun _ _ _ h => h) (Or.inl ⟨by rfl, ?hyd6⟩) hSd3 ?restd6
  case hyd6 => intro V hSw; clear hSw; go_simp; try with_reducible rfl
  try simp only [Act.put, List.setIfInBounds_toArray, List.set_cons_zero, List.set_cons_succ]
  refine wpAnyH_done (by kernel_rfl) ?_ _
  obtain ⟨ab, cb, hab⟩ := hox.slice
  have HB : Hid (OwnX W1 w.heap.size 5 1 (.slice ab (wordF 2).length cb) (wordF 2).length (Lib.byteCells (wordF 2))) := Lib.hid (by rw [hab] at hox; exact hox)
  rw [hab]
  have HBl : Hid (∀ g, (Value.slice ab (wordF 2).length cb).ownBlock = some g → g < W1.heap.size) := Lib.hid (fun g hg => (HB.out.lt g hg).2)
  clear hSd0 hSd1 hSd2 hSd3 hcv hab hox hbb hc
  have HQ1 := Lib.hid (HQ0.out.below hs1 HQ0.out.lt)
  have HW1 := Lib.hid (HW0.out.trans (hs1.mono HW0.out.size))
  have hz1 : w.heap.size + 1 ≤ W1.heap.size := HQ1.out.lt
  clear hs1 hz0
  obtain ⟨c0, c1, c2, c3, c4, c5, c6, c7, c8, c9⟩ := tenB HQ1.out
  go_wp2_with fail
  go_ret
  exact ⟨_, rfl, by rw [HWF.out]; exact HB.out, HW1.out⟩
set_option maxRecDepth 100000 in
set_option maxHeartbeats 16000000 in
theorem rwrite_3 (h : RAsk 3 oc f t u lo hi bo op ks L Hh Kd ck w) :
    Calls Tryd.prog 28 #[.agg #[.int .i64 3, .int .i64 oc, .string f, .string t, .string u, .slice L lo.length cl, .slice Hh hi.length ch, .int .i64 bo, .int .i64 op, .slice Kd ks.length ck]] w (RowBX (writeF numT (.mk 3 oc f t u lo hi bo op ks)) w) := by
  have HA := Lib.hid h
  obtain ⟨i0, hi1, hi2, hi3, hi4⟩ := info_parts infoU8
  obtain ⟨j0, hj1, hj2, hj3, hj4⟩ := info_parts infoS8
  have HI := Lib.hid (And.intro hi1 (And.intro hi2 (And.intro hi3 hi4)))
  have HJ := Lib.hid (And.intro hj1 (And.intro hj2 (And.intro hj3 hj4)))
  clear hi1 hi2 hi3 hi4 hj1 hj2 hj3 hj4
  have HOK : Hid (f.size ≤ 140737488351232 ∧ t.size ≤ 140737488351232 ∧ u.size ≤ 140737488351232 ∧ (lo.length * 8 ≤ 140737488351232 ∧ ∀ z ∈ lo, I64 z) ∧ (hi.length * 8 ≤ 140737488351232 ∧ ∀ z ∈ hi, I64 z) ∧ I64 bo ∧ ks.length * 152 ≤ 140737488351232) := Lib.hid (by
    cases h.ok with
    | mk _ _ a1 a2 a3 a4 a5 a6 _ a7 _ => exact ⟨a1, a2, a3, a4, a5, a6, a7⟩)
  have hW : writeF numT (.mk 3 oc f t u lo hi bo op ks) = wordF 3 ++ 40 :: (joinF [44, 32] ([f.data.toList, quoteF t] ++ writeL numT ks) ++ [41]) := by
    rw [writeF, if_neg (by decide)]; rfl
  have HWF := Lib.hid hW
  have HLEN : Hid ((wordF 3 ++ [40]).length + (joinF [44, 32] ([f.data.toList, quoteF t] ++ writeL numT ks)).length + 401 ≤ maxW) := Lib.hid (by
    have := h.len
    rw [hW] at this
    simp only [List.length_append, List.length_cons, List.length_nil] at *
    omega)
  clear hW
  clear h
  go_enter Tryd.func28, Tryd.ntmps28
  go_upto_region 1 with fail
  have HQ0 := Lib.hid (Blk.new w 25 #[.int .i64 3, .int .i64 oc, .string f, .string t, .string u, .slice L lo.length cl, .slice Hh hi.length ch, .int .i64 bo, .int .i64 op, .slice Kd ks.length ck])
  have HW0 := Lib.hid ((Below.refl _ w).alloc (Nat.le_refl _) (.cells #[.int .i64 3, .int .i64 oc, .string f, .string t, .string u, .slice L lo.length cl, .slice Hh hi.length ch, .int .i64 bo, .int .i64 op, .slice Kd ks.length ck] 25))
  have hz0 : (w.alloc (.cells #[.int .i64 3, .int .i64 oc, .string f, .string t, .string u, .slice L lo.length cl, .slice Hh hi.length ch, .int .i64 bo, .int .i64 op, .slice Kd ks.length ck] 25)).heap.size = w.heap.size + 1 := by simp
  generalize (w.alloc (.cells #[.int .i64 3, .int .i64 oc, .string f, .string t, .string u, .slice L lo.length cl, .slice Hh hi.length ch, .int .i64 bo, .int .i64 op, .slice Kd ks.length ck] 25)) = W0 at *
  refine wp_region_held_drew (S := fun V => Below W0.heap.size W0 V) (by kernel_rfl) (Below.refl _ W0).drew (fun hSd0 => ?_)
  refine' wpAnyH_take (i := 1) (v := _) (by simp only [List.getElem?_toArray, List.getElem?_cons_succ, List.getElem?_cons_zero]; rfl) (by kernel_rfl) (by kernel_rfl) (by kernel_rfl) (by exact fun _ _ _ h => h) (Or.inl ⟨by rfl, ?hyd1⟩) hSd0 ?restd1
  case hyd1 => intro V hSw; clear hSw; go_simp; try with_reducible rfl
  try simp only [Act.put, List.setIfInBounds_toArray, List.set_cons_zero, List.set_cons_succ]
  refine' wpAnyH_take (i := 2) (v := _) (by simp only [List.getElem?_toArray, List.getElem?_cons_succ, List.getElem?_cons_zero]; rfl) (by kernel_rfl) (by kernel_rfl) (by kernel_rfl) (by exact fun _ _ _ h => h) (Or.inl ⟨by rfl, ?hyd2⟩) hSd0 ?restd2
  case hyd2 => intro V hSw; have fq := (HQ0.out.below hSw HQ0.out.lt).cell 0; clear hSw; go_simp; try with_reducible rfl
  try simp only [Act.put, List.setIfInBounds_toArray, List.set_cons_zero, List.set_cons_succ]
  refine wpAnyH_ready (rs := [0]) (by kernel_rfl) (by simp) ?_
  refine' AllReadyH.cons (by simp only [List.getElem?_toArray, List.getElem?_cons_zero]; rfl) (fun KC hK => ?_) AllReadyH.nil
  go_simp
  refine (rwords_any _).mono ?_
  rintro e V1 ⟨rfl, hb, hc⟩
  have hc : V1.cell? ⟨w.heap.size + 1, 3, none⟩ = some (.string (str (wordF 3))) := by rw [← hz0]; exact hc 3 (by decide) (by decide)
  have hs1 : Below W0.heap.size W0 V1 := hSd0.trans (hb.mono hSd0.size)
  clear hb
  go_simp
  refine hK.out _ _ hs1 (fun hSd1 => ?_)
  clear hK hs1
  try simp only [Act.put, List.setIfInBounds_toArray, List.set_cons_zero, List.set_cons_succ]
  refine' wpAnyH_take (i := 3) (v := _) (by simp only [List.getElem?_toArray, List.getElem?_cons_succ, List.getElem?_cons_zero]; rfl) (by kernel_rfl) (by kernel_rfl) (by kernel_rfl) (by exact fun _ _ _ h => h) (Or.inl ⟨by rfl, ?hyd3⟩) hSd1 ?restd3
  case hyd3 => intro V hSw; clear hSw; go_simp; try with_reducible rfl
  try simp only [Act.put, List.setIfInBounds_toArray, List.set_cons_zero, List.set_cons_succ]
  refine wpAnyH_ready (rs := [4]) (by kernel_rfl) (by simp) ?_
  refine' AllReadyH.cons (by simp only [List.getElem?_toArray, List.getElem?_cons_succ, List.getElem?_cons_zero]; rfl) (fun KC hK => ?_) AllReadyH.nil
  go_simp
  refine hK.out _ _ hSd1 (fun hSd2 => ?_)
  clear hK
  try simp only [Act.put, List.setIfInBounds_toArray, List.set_cons_zero, List.set_cons_succ]
  refine wpAnyH_ready (rs := [5]) (by kernel_rfl) (by simp) ?_
  refine' AllReadyH.cons (by simp only [List.getElem?_toArray, List.getElem?_cons_succ, List.getElem?_cons_zero]; rfl) (fun KC hK => ?_) AllReadyH.nil
  have hcv := Lib.run_convert_string_bytes (P := Tryd.prog) V1 9 43 5 (str (wordF 3)) (u := .string) Tryd.underlying9 Tryd.underlying43 Tryd.underlying5
  have hox := ownX_bytes V1 w.heap.size 5 (str (wordF 3)) (by have := hSd1.size; omega) (by decide)
  have hbb := below_bytes V1 5 (str (wordF 3))
  generalize Lib.bytesWorld V1 5 (str (wordF 3)) = W1 at *
  go_simp
  have hs1 : Below W0.heap.size W0 W1 := hSd1.trans (hbb.mono hSd1.size)
  refine hK.out _ _ hs1 (fun hSd3 => ?_)
  clear hK
  try simp only [Act.put, List.setIfInBounds_toArray, List.set_cons_zero, List.set_cons_succ]
  refine' wpAnyH_take (i := 6) (v := _) (by simp only [List.getElem?_toArray, List.getElem?_cons_succ, List.getElem?_cons_zero]; rfl) (by kernel_rfl) (by kernel_rfl) (by kernel_rfl) (by exact fun _ _ _ h => h) (Or.inl ⟨by rfl, ?hyd6⟩) hSd3 ?restd6
  case hyd6 => intro V hSw; clear hSw; go_simp; try with_reducible rfl
  try simp only [Act.put, List.setIfInBounds_toArray, List.set_cons_zero, List.set_cons_succ]
  refine wpAnyH_done (by kernel_rfl) ?_ _
  obtain ⟨ab, cb, hab⟩ := hox.slice
  have HB : Hid (OwnX W1 w.heap.size 5 1 (.slice ab (wordF 3).length cb) (wordF 3).length (Lib.byteCells (wordF 3))) := Lib.hid (by rw [hab] at hox; exact hox)
  rw [hab]
  have HBl : Hid (∀ g, (Value.slice ab (wordF 3).length cb).ownBlock = some g → g < W1.heap.size) := Lib.hid (fun g hg => (HB.out.lt g hg).2)
  clear hSd0 hSd1 hSd2 hSd3 hcv hab hox hbb hc
  have HQ1 := Lib.hid (HQ0.out.below hs1 HQ0.out.lt)
  have HW1 := Lib.hid (HW0.out.trans (hs1.mono HW0.out.size))
  have hz1 : w.heap.size + 1 ≤ W1.heap.size := HQ1.out.lt
  clear hs1 hz0
  obtain ⟨c0, c1, c2, c3, c4, c5, c6, c7, c8, c9⟩ := tenB HQ1.out
  have HLq1 : Hid ((quoteF t).length ≤ 140737488355000) := Lib.hid (by have := part_le (ps := [f.data.toList]) (x := quoteF t) (rest := [] ++ writeL numT ks) (all := [f.data.toList, quoteF t] ++ writeL numT ks) rfl; have := HLEN.out; unfold maxW at this; omega)
  go_upto_region 9 with fail
  clear c0 c1 c2 c3 c4 c5 c6 c7 c8 c9
  refine wp_mono (Q := fun ex a' V => ex = .normal ∧ ∃ x0 x1  Ab v', Parts W1.heap.size V v' [f.data.toList, quoteF t] ∧ Below W1.heap.size W1 V ∧ a' = { tmps := #[Value.agg #[Value.int IntKind.i64 3, Value.int IntKind.i64 oc, Value.string f, Value.string t, Value.string u, Value.slice L lo.length cl, Value.slice Hh hi.length ch, Value.int IntKind.i64 bo, Value.int IntKind.i64 op, Value.slice Kd ks.length ck], Value.pointer (some { block := w.heap.size, off := 0 }), Value.slice none 0 0, Value.slice ab (str (wordF 3)).size cb, v', undef, undef, undef, Value.slice (some { block := w.heap.size + 1, off := 0 }) 11 11, Value.pointer (some { block := w.heap.size, off := 0 }), Value.int IntKind.i64 3, Value.pointer (some { block := w.heap.size + 1, off := 3 }), Value.string (str (wordF 3)), Value.slice ab (str (wordF 3)).size cb, Value.pointer (some { block := w.heap.size, off := 0 }), Value.int IntKind.i64 3, Value.bool false, undef, Value.pointer (some { block := w.heap.size, off := 0 }), Value.int IntKind.i64 3, Value.bool true, Value.bool true, undef, undef, Value.slice none 0 0, Value.pointer (some { block := w.heap.size, off := 2 }), Value.string f, x0, Value.pointer (some { block := w.heap.size, off := 3 }), Value.string t, x1, Value.slice Ab 2 2, v', undef, undef, undef, undef, undef, undef, undef, undef, undef, undef, undef, undef, undef, undef, undef, undef, undef, undef, undef, undef, undef, undef, undef, undef, undef, undef, undef, undef, undef, undef, undef, undef, undef, undef, undef, undef, undef, undef, undef, undef, undef, undef, undef, undef, undef, undef, undef, undef, undef, undef, undef, undef, undef, undef, undef, undef, undef, undef, undef, undef, undef, undef, undef, undef, undef, undef, undef, undef, undef, undef, undef, undef, undef, undef, undef, undef, undef, undef, undef, undef, undef, undef, undef, undef, undef, undef, undef, undef, undef, undef, undef, undef, undef, undef, undef, undef, undef, undef, undef, undef, undef, undef, undef, undef, undef, undef, undef, undef, undef], defers := [] }) ?region ?rest
  case region =>
    obtain ⟨hj1, hj2, hj3, hj4⟩ := HJ.out
    refine wp_region_held_drew (S := fun V => Below W1.heap.size W1 V) (by kernel_rfl) (Below.refl _ W1).drew (fun hS0 => ?_)
    generalize W1.drew = V0 at hS0 ⊢
    refine' wpAnyH_take (i := 0) (v := _) (by simp only [List.getElem?_toArray, List.getElem?_cons_zero]; rfl) (by kernel_rfl) (by kernel_rfl) (by kernel_rfl) (by rintro _ _ _ ⟨h, _⟩; cases h) (Or.inl ⟨by rfl, ?hm0_1⟩) hS0 ?rm0_1
    case hm0_1 => intro V hSw; clear hSw; go_simp; try with_reducible rfl
    try simp only [Act.put, List.setIfInBounds_toArray, List.set_cons_zero, List.set_cons_succ]
    refine' wpAnyH_take (i := 1) (v := _) (by simp only [List.getElem?_toArray, List.getElem?_cons_succ, List.getElem?_cons_zero]; rfl) (by kernel_rfl) (by kernel_rfl) (by kernel_rfl) (by rintro _ _ _ ⟨h, _⟩; cases h) (Or.inl ⟨by rfl, ?hm1_2⟩) hS0 ?rm1_2
    case hm1_2 => intro V hSw; clear hSw; go_simp; try with_reducible rfl
    try simp only [Act.put, List.setIfInBounds_toArray, List.set_cons_zero, List.set_cons_succ]
    refine' wpAnyH_take (i := 2) (v := _) (by simp only [List.getElem?_toArray, List.getElem?_cons_succ, List.getElem?_cons_zero]; rfl) (by kernel_rfl) (by kernel_rfl) (by kernel_rfl) (by rintro _ _ _ ⟨h, _⟩; cases h) (Or.inl ⟨by rfl, ?hm2_3⟩) hS0 ?rm2_3
    case hm2_3 => intro V hSw; have fq := (HQ1.out.below hSw HQ1.out.lt).cell 2; clear hSw; go_simp; try with_reducible rfl
    try simp only [Act.put, List.setIfInBounds_toArray, List.set_cons_zero, List.set_cons_succ]
    refine' wpAnyH_take (i := 4) (v := _) (by simp only [List.getElem?_toArray, List.getElem?_cons_succ, List.getElem?_cons_zero]; rfl) (by kernel_rfl) (by kernel_rfl) (by kernel_rfl) (by rintro _ _ _ ⟨h, _⟩; cases h) (Or.inl ⟨by rfl, ?hm4_4⟩) hS0 ?rm4_4
    case hm4_4 => intro V hSw; clear hSw; go_simp; try with_reducible rfl
    try simp only [Act.put, List.setIfInBounds_toArray, List.set_cons_zero, List.set_cons_succ]
    refine' wpAnyH_take (i := 5) (v := _) (by simp only [List.getElem?_toArray, List.getElem?_cons_succ, List.getElem?_cons_zero]; rfl) (by kernel_rfl) (by kernel_rfl) (by kernel_rfl) (by rintro _ _ _ ⟨h, _⟩; cases h) (Or.inl ⟨by rfl, ?hm5_5⟩) hS0 ?rm5_5
    case hm5_5 => intro V hSw; have fq := (HQ1.out.below hSw HQ1.out.lt).cell 3; clear hSw; go_simp; try with_reducible rfl
    try simp only [Act.put, List.setIfInBounds_toArray, List.set_cons_zero, List.set_cons_succ]
    refine wpAnyH_ready (rs := [3, 6]) (by kernel_rfl) (by simp) ?_
    refine' AllReadyH.cons (by simp only [List.getElem?_toArray, List.getElem?_cons_succ, List.getElem?_cons_zero]; rfl) (fun K hK => ?_) ?_
    · skip
      have hcv := Lib.run_convert_string_bytes (P := Tryd.prog) V0 9 43 5 f (u := .string) Tryd.underlying9 Tryd.underlying43 Tryd.underlying5
      have hox := ownX_bytes V0 W1.heap.size 5 f hS0.size (by have := HOK.out.1; unfold maxLen; omega)
      have hbb := below_bytes V0 5 f
      generalize Lib.bytesWorld V0 5 f = V1 at *
      generalize hxv : Value.slice (some ⟨V0.heap.size, 0, none⟩) f.size (grownCap V0 f.size 0 5) = x0 at *
      clear hxv
      go_simp
      have hE0 : Elt V1 W1.heap.size V1.heap.size x0 (f.data.toList) := Elt.ofX hox (Nat.le_refl _)
      have hS1 : Below W1.heap.size W1 V1 := hS0.trans (hbb.mono hS0.size)
      refine hK.out _ _ hS1 (fun hT => ?_)
      clear hK hcv hox hT
      try simp only [Act.put, List.setIfInBounds_toArray, List.set_cons_zero, List.set_cons_succ]
      clear hbb
      refine wpAnyH_ready (rs := [6]) (by kernel_rfl) (by simp) ?_
      refine' AllReadyH.cons (by simp only [List.getElem?_toArray, List.getElem?_cons_succ, List.getElem?_cons_zero]; rfl) (fun K hK => ?_) ?_
      · skip
        go_simp
        refine (rquoted_any t _ HLq1.out).mono ?_
        rintro e V2 ⟨x1, rfl, ho, hb⟩
        have hE1 : Elt V2 W1.heap.size V2.heap.size x1 (quoteF t) := Elt.ofX (OwnX.of ho) hS1.size
        have hS2 : Below W1.heap.size W1 V2 := hS1.trans (hb.mono hS1.size)
        replace hE0 := hE0.below hb (Nat.le_refl _)
        clear ho hb
        go_simp
        refine hK.out _ _ hS2 (fun hT => ?_)
        clear hK hT
        try simp only [Act.put, List.setIfInBounds_toArray, List.set_cons_zero, List.set_cons_succ]
        obtain ⟨A0, C0, hx⟩ := hE0.slice
        replace hx : x0 = .slice A0 f.size C0 := hx
        subst hx
        obtain ⟨A1, C1, hx⟩ := hE1.slice
        replace hx : x1 = .slice A1 (quoteF t).length C1 := hx
        subst hx
        refine wpAnyH_ready (rs := [7]) (by kernel_rfl) (by simp) ?_
        refine' AllReadyH.cons (by simp only [List.getElem?_toArray, List.getElem?_cons_succ, List.getElem?_cons_zero]; rfl) (fun K hK => ?_) AllReadyH.nil
        have hRn := reads_new V2 43 [.slice A0 f.size C0, .slice A1 (quoteF t).length C1] 2 rfl
        go_simp
        replace hE0 := hE0.below ((Below.refl _ V2).alloc (Nat.le_refl _) (.cells #[.slice A0 f.size C0, .slice A1 (quoteF t).length C1] 43)) (Nat.le_refl _)
        replace hE1 := hE1.below ((Below.refl _ V2).alloc (Nat.le_refl _) (.cells #[.slice A0 f.size C0, .slice A1 (quoteF t).length C1] 43)) (Nat.le_refl _)
        have hS3 := Below.alloc hS2 hS2.size (.cells #[.slice A0 f.size C0, .slice A1 (quoteF t).length C1] 43)
        generalize hAb : (some ⟨V2.heap.size, 0, none⟩ : Option Addr) = Ab at *
        clear hAb
        generalize V2.alloc (.cells #[.slice A0 f.size C0, .slice A1 (quoteF t).length C1] 43) = V3 at *
        refine hK.out _ _ hS3 (fun hT => ?_)
        clear hK
        try simp only [Act.put, List.setIfInBounds_toArray, List.set_cons_zero, List.set_cons_succ]
        refine wpAnyH_ready (rs := [8]) (by kernel_rfl) (by simp) ?_
        refine' AllReadyH.cons (by simp only [List.getElem?_toArray, List.getElem?_cons_succ, List.getElem?_cons_zero]; rfl) (fun K hK => ?_) AllReadyH.nil
        refine step_append_any _ rfl (.tmp 24) (.tmp 31) 74 rfl W1.heap.size 43 j0 (.slice none 0 0) 1 24 Tryd.underlying74 hj1 hj2 hj3 hj4 rfl (by decide) (.slice none 0 0) 0 [] rfl (World.ownsRow_nil _ _ _ _) _ Ab 2 2 [.slice A0 f.size C0, .slice A1 (quoteF t).length C1] rfl hRn (by intro y hy; simp only [List.mem_cons, List.not_mem_nil, or_false] at hy; rcases hy with rfl | rfl; exact hE0.one; exact hE1.one) (by decide) (by decide) hS3.size ?_
        intro v' w' ho hg _
        have hP : Parts W1.heap.size w' v' [f.data.toList, quoteF t] := parts_more (ps := []) (ps' := [f.data.toList, quoteF t]) (World.ownsRow_nil _ _ _ _) rfl (parts_one (xs := [.slice A0 f.size C0]) (ps := [f.data.toList]) (parts_one (xs := []) (ps := []) (fun i x p h => by simp at h) rfl hE0) rfl hE1) ho hg
        have hSe : Below W1.heap.size W1 w' := hS3.grown hg hS3.size (fun r e => by cases e)
        refine hK.out _ _ hSe (fun hT => ?_)
        clear hK
        try simp only [Act.put, List.setIfInBounds_toArray, List.set_cons_zero, List.set_cons_succ]
        refine' wpAnyH_take (i := 9) (v := _) (by simp only [List.getElem?_toArray, List.getElem?_cons_succ, List.getElem?_cons_zero]; rfl) (by kernel_rfl) (by kernel_rfl) (by kernel_rfl) (by rintro _ _ _ ⟨h, _⟩; cases h) (Or.inl ⟨by rfl, ?hm9_6⟩) hSe ?rm9_6
        case hm9_6 => intro V hSw; clear hSw; go_simp; try with_reducible rfl
        try simp only [Act.put, List.setIfInBounds_toArray, List.set_cons_zero, List.set_cons_succ]
        refine wpAnyH_done (by kernel_rfl) ?_ _
        exact ⟨rfl, .slice A0 f.size C0, .slice A1 (quoteF t).length C1, Ab, v', hP, hSe, rfl⟩
      exact AllReadyH.nil
    refine' AllReadyH.cons (by simp only [List.getElem?_toArray, List.getElem?_cons_succ, List.getElem?_cons_zero]; rfl) (fun K hK => ?_) ?_
    · skip
      go_simp
      refine (rquoted_any t _ HLq1.out).mono ?_
      rintro e V1 ⟨x1, rfl, ho, hb⟩
      have hE1 : Elt V1 W1.heap.size V1.heap.size x1 (quoteF t) := Elt.ofX (OwnX.of ho) hS0.size
      have hS1 : Below W1.heap.size W1 V1 := hS0.trans (hb.mono hS0.size)
      clear ho hb
      go_simp
      refine hK.out _ _ hS1 (fun hT => ?_)
      clear hK hT
      try simp only [Act.put, List.setIfInBounds_toArray, List.set_cons_zero, List.set_cons_succ]
      refine wpAnyH_ready (rs := [3]) (by kernel_rfl) (by simp) ?_
      refine' AllReadyH.cons (by simp only [List.getElem?_toArray, List.getElem?_cons_succ, List.getElem?_cons_zero]; rfl) (fun K hK => ?_) ?_
      · skip
        have hcv := Lib.run_convert_string_bytes (P := Tryd.prog) V1 9 43 5 f (u := .string) Tryd.underlying9 Tryd.underlying43 Tryd.underlying5
        have hox := ownX_bytes V1 W1.heap.size 5 f hS1.size (by have := HOK.out.1; unfold maxLen; omega)
        have hbb := below_bytes V1 5 f
        generalize Lib.bytesWorld V1 5 f = V2 at *
        generalize hxv : Value.slice (some ⟨V1.heap.size, 0, none⟩) f.size (grownCap V1 f.size 0 5) = x0 at *
        clear hxv
        go_simp
        replace hE1 := hE1.below hbb (Nat.le_refl _)
        have hE0 : Elt V2 W1.heap.size V2.heap.size x0 (f.data.toList) := Elt.ofX hox (Nat.le_refl _)
        have hS2 : Below W1.heap.size W1 V2 := hS1.trans (hbb.mono hS1.size)
        refine hK.out _ _ hS2 (fun hT => ?_)
        clear hK hcv hox hT
        try simp only [Act.put, List.setIfInBounds_toArray, List.set_cons_zero, List.set_cons_succ]
        clear hbb
        obtain ⟨A0, C0, hx⟩ := hE0.slice
        replace hx : x0 = .slice A0 f.size C0 := hx
        subst hx
        obtain ⟨A1, C1, hx⟩ := hE1.slice
        replace hx : x1 = .slice A1 (quoteF t).length C1 := hx
        subst hx
        refine wpAnyH_ready (rs := [7]) (by kernel_rfl) (by simp) ?_
        refine' AllReadyH.cons (by simp only [List.getElem?_toArray, List.getElem?_cons_succ, List.getElem?_cons_zero]; rfl) (fun K hK => ?_) AllReadyH.nil
        have hRn := reads_new V2 43 [.slice A0 f.size C0, .slice A1 (quoteF t).length C1] 2 rfl
        go_simp
        replace hE1 := hE1.below ((Below.refl _ V2).alloc (Nat.le_refl _) (.cells #[.slice A0 f.size C0, .slice A1 (quoteF t).length C1] 43)) (Nat.le_refl _)
        replace hE0 := hE0.below ((Below.refl _ V2).alloc (Nat.le_refl _) (.cells #[.slice A0 f.size C0, .slice A1 (quoteF t).length C1] 43)) (Nat.le_refl _)
        have hS3 := Below.alloc hS2 hS2.size (.cells #[.slice A0 f.size C0, .slice A1 (quoteF t).length C1] 43)
        generalize hAb : (some ⟨V2.heap.size, 0, none⟩ : Option Addr) = Ab at *
        clear hAb
        generalize V2.alloc (.cells #[.slice A0 f.size C0, .slice A1 (quoteF t).length C1] 43) = V3 at *
        refine hK.out _ _ hS3 (fun hT => ?_)
        clear hK
        try simp only [Act.put, List.setIfInBounds_toArray, List.set_cons_zero, List.set_cons_succ]
        refine wpAnyH_ready (rs := [8]) (by kernel_rfl) (by simp) ?_
        refine' AllReadyH.cons (by simp only [List.getElem?_toArray, List.getElem?_cons_succ, List.getElem?_cons_zero]; rfl) (fun K hK => ?_) AllReadyH.nil
        refine step_append_any _ rfl (.tmp 24) (.tmp 31) 74 rfl W1.heap.size 43 j0 (.slice none 0 0) 1 24 Tryd.underlying74 hj1 hj2 hj3 hj4 rfl (by decide) (.slice none 0 0) 0 [] rfl (World.ownsRow_nil _ _ _ _) _ Ab 2 2 [.slice A0 f.size C0, .slice A1 (quoteF t).length C1] rfl hRn (by intro y hy; simp only [List.mem_cons, List.not_mem_nil, or_false] at hy; rcases hy with rfl | rfl; exact hE0.one; exact hE1.one) (by decide) (by decide) hS3.size ?_
        intro v' w' ho hg _
        have hP : Parts W1.heap.size w' v' [f.data.toList, quoteF t] := parts_more (ps := []) (ps' := [f.data.toList, quoteF t]) (World.ownsRow_nil _ _ _ _) rfl (parts_one (xs := [.slice A0 f.size C0]) (ps := [f.data.toList]) (parts_one (xs := []) (ps := []) (fun i x p h => by simp at h) rfl hE0) rfl hE1) ho hg
        have hSe : Below W1.heap.size W1 w' := hS3.grown hg hS3.size (fun r e => by cases e)
        refine hK.out _ _ hSe (fun hT => ?_)
        clear hK
        try simp only [Act.put, List.setIfInBounds_toArray, List.set_cons_zero, List.set_cons_succ]
        refine' wpAnyH_take (i := 9) (v := _) (by simp only [List.getElem?_toArray, List.getElem?_cons_succ, List.getElem?_cons_zero]; rfl) (by kernel_rfl) (by kernel_rfl) (by kernel_rfl) (by rintro _ _ _ ⟨h, _⟩; cases h) (Or.inl ⟨by rfl, ?hm9_7⟩) hSe ?rm9_7
        case hm9_7 => intro V hSw; clear hSw; go_simp; try with_reducible rfl
        try simp only [Act.put, List.setIfInBounds_toArray, List.set_cons_zero, List.set_cons_succ]
        refine wpAnyH_done (by kernel_rfl) ?_ _
        exact ⟨rfl, .slice A0 f.size C0, .slice A1 (quoteF t).length C1, Ab, v', hP, hSe, rfl⟩
      exact AllReadyH.nil
    exact AllReadyH.nil
  rintro ex a' W2 ⟨rfl, x0, x1, Ab, v4, hP, hb2, rfl⟩
  have HP2 := Lib.hid hP; have HB2 := Lib.hid hb2
  clear hP hb2
  obtain ⟨_, _, hke, hckA, hmkA, helK⟩ := at_kids HA.out.kids
  injection hke with hk1 _ hk3
  subst hk1 hk3
  have HKS := Lib.hid helK
  clear helK hckA
  have hks : ks.length * 152 ≤ 140737488351232 := HOK.out.2.2.2.2.2.2
  have H0 : Hid (Parts W1.heap.size W2 v4 ([f.data.toList, quoteF t] ++ (writeL numT ks).take 0) ∧ Below W1.heap.size W1 W2) := Lib.hid ⟨by simpa using HP2.out, HB2.out⟩
  clear HP2 HB2
  go_wp2_with fail
  go_loopw [4, 5] (fun v i wr => ∃ k : Nat, k ≤ ks.length ∧ i = .int .i64 k ∧ Hid (Parts W1.heap.size wr v ([f.data.toList, quoteF t] ++ (writeL numT ks).take k) ∧ Below W1.heap.size W1 wr)) (fun _ i _ => ks.length - (intOf i).toNat)
  case atStart => exact ⟨0, by omega, rfl, H0⟩
  case round =>
    skip
    clear H0
    obtain ⟨k, hk, rfl, HP⟩ := hrel
    have HQr := Lib.hid (HQ1.out.below HP.out.2 HQ1.out.lt)
    have HWr := Lib.hid (HW1.out.trans (HP.out.2.mono HW1.out.size))
    have hzr := HP.out.2.size
    have q9 : wr.cell? ⟨w.heap.size, 9, none⟩ = some (.slice Kd ks.length ck) := HQr.out.cell 9
    by_cases hlt : k < ks.length
    · have hlt2 : (k : Int) < (ks.length : Int) := by omega
      obtain ⟨ad, us, hKe, hba, au, lu, cu⟩ := HKS.out k hlt
      subst hKe
      replace cu := cu.keep (w' := wr) (fun p hp => HWr.out.cell (by rw [hp, block_of_add]; exact hba))
      have HD := Lib.hid (fun (W : World) (hW : Below w.heap.size w W) => HA.out.down ks[k] (List.getElem_mem _) us W (atL_ltw au hW))
      have hocc := HA.out.occ ks[k] (List.getElem_mem _)
      have HX := Lib.hid (kids_takeR hlt)
      have HLK : Hid ((markF (QryP.oc ks[k]) ++ writeF numT ks[k]).length + 400 ≤ maxW) := Lib.hid (by have := kid_part (pc := [f.data.toList, quoteF t]) hlt; have := HLEN.out; omega)
      have HPL : Hid (([f.data.toList, quoteF t] ++ (writeL numT ks).take k).length ≤ ks.length + 3) := Lib.hid (by rw [List.length_append, List.length_take, writeL_len]; simp only [List.length_cons, List.length_nil]; omega)
      have q0 : wr.cell? ⟨w.heap.size, 0, none⟩ = some (.int .i64 3) := HQr.out.cell 0
      generalize hq : ks[k] = q at *
      have HNX : Hid (∀ (W : World) (v : Value), Parts W1.heap.size W v (([f.data.toList, quoteF t] ++ (writeL numT ks).take k) ++ [markF (QryP.oc q) ++ writeF numT q]) → Parts W1.heap.size W v ([f.data.toList, quoteF t] ++ (writeL numT ks).take (k + 1))) := Lib.hid (fun W v h => by rw [HX.out, ← List.append_assoc]; exact h)
      clear HX
      generalize [f.data.toList, quoteF t] ++ (writeL numT ks).take k = PS at *
      obtain ⟨ao, ca, hao⟩ := HP.out.1.slice
      subst hao
      generalize hTX : writeF numT q = TX at *
      clear hTX
      obtain ⟨kd', oc', f', t', u', lo', hi', b', op', ks'⟩ := q
      obtain ⟨vl, vh, vk, rfl, hvl, hvh, hvk⟩ := at_cells au
      obtain ⟨B1, d1, rfl, _⟩ := at_ints hvl
      obtain ⟨B2, d2, rfl, _⟩ := at_ints hvh
      obtain ⟨B3, d3, rfl⟩ := at_sl hvk
      obtain ⟨a0, a1, a2, a3, a4, a5, a6, a7, a8, a9⟩ := ten cu
      have HCU := Lib.hid cu
      clear hq au hvl hvh hvk cu lu
      replace hocc : ((3 : Int) = 8 → 1 ≤ oc' ∧ oc' ≤ 4) ∧ ((3 : Int) ≠ 8 → oc' = 0) := hocc
      change Hid ((markF oc' ++ TX).length + 400 ≤ maxW) at HLK
      change Hid (∀ (W : World) (v : Value), Parts W1.heap.size W v (PS ++ [markF oc' ++ TX]) → Parts W1.heap.size W v ([f.data.toList, quoteF t] ++ (writeL numT ks).take (k + 1))) at HNX
      obtain ⟨hi1, hi2, hi3, hi4⟩ := HI.out
      obtain ⟨hj1, hj2, hj3, hj4⟩ := HJ.out
      obtain rfl : oc' = 0 := hocc.2 (by decide)
      clear hocc
      go_wp2_with fail
      refine (HD.out _ HWr.out).mono ?_
      rintro e w2 ⟨x, rfl, ho, hb⟩
      obtain ⟨A6, C6, hx⟩ := ho.slice
      subst hx
      have hrd := ho.reads
      have hB2 : Below wr.heap.size wr w2 := hb
      have h6 : OwnX w2 wr.heap.size 5 1 (.slice none 0 0) 0 (Lib.byteCells ([] : List UInt8)) := ⟨by simp [Lib.byteCells], .inl ⟨rfl, rfl⟩⟩
      clear ho hb a0 a1 a2 a3 a4 a5 a6 a7 a8 a9 q9 q0 
      have hlk : 0 + TX.length + 400 ≤ maxW := by have := HLK.out; first | (simpa [markF] using this) | (simp [markF] at this; omega)
      have hz2 := hB2.size
      go_wp2_with (at_builtin; refine wpList_appendX _ rfl (.tmp 107) (.tmp 113) 43 rfl wr.heap.size 5 i0 (.int .u8 0) 1 1 Tryd.underlying43 hi1 hi2 hi3 hi4 rfl (by decide) _ _ _ rfl h6 _ A6 TX.length C6 _ rfl hrd cells_one (by unfold maxLen; unfold maxW at hlk; omega) (by unfold maxW at hlk; omega) hz2 ?_)
      intro v7 w7 ho7 hg7 hv7
      have h7 : OwnX w7 wr.heap.size 5 1 v7 (([] : List UInt8) ++ TX).length (Lib.byteCells (([] : List UInt8) ++ TX)) := by
        have e : Lib.byteCells (([] : List UInt8) ++ TX) = Lib.byteCells ([] : List UInt8) ++ Lib.byteCells TX := by simp [Lib.byteCells]
        first | (rw [e, List.length_append]; exact ho7) | exact ho7
      have hB7 : Below wr.heap.size wr w7 := hB2.grown hg7 hz2 (fun r e => (h6.lt r e).1)
      have hE7 : Elt w7 W1.heap.size w7.heap.size v7 (([] : List UInt8) ++ TX) := Elt.ofX h7 hzr
      obtain ⟨A7, C7, hx⟩ := hE7.slice
      subst hx
      have hPz := (HP.out.1.below hB7).below ((Below.refl _ w7).alloc (Nat.le_refl _) (.cells #[.slice A7 (([] : List UInt8) ++ TX).length C7] 43))
      have hE8 := hE7.below ((Below.refl _ w7).alloc (Nat.le_refl _) (.cells #[.slice A7 (([] : List UInt8) ++ TX).length C7] 43)) (Nat.le_refl _)
      obtain ⟨xs, hox, hxl, hxe⟩ := hPz
      have hRn := reads_new w7 43 [.slice A7 (([] : List UInt8) ++ TX).length C7] 1 rfl
      have hB8 : Below W1.heap.size W1 (w7.alloc (.cells #[.slice A7 (([] : List UInt8) ++ TX).length C7] 43)) := (HP.out.2.trans (hB7.mono hzr)).alloc (Nat.le_trans hzr hB7.size) _
      have hpl := HPL.out
      clear ho7 hg7 hv7 h6 hrd hlk hE7 h7 hB2
      go_wp2_with (at_builtin; refine wpList_append_any _ rfl (.tmp 115) (.tmp 117) 74 rfl W1.heap.size 43 j0 (.slice none 0 0) 1 24 Tryd.underlying74 hj1 hj2 hj3 hj4 rfl (by decide) _ _ _ rfl hox _ _ 1 1 [.slice A7 (([] : List UInt8) ++ TX).length C7] rfl hRn (by intro y hy; simp only [List.mem_cons, List.not_mem_nil, or_false] at hy; subst hy; rfl) (by unfold maxLen; omega) (by omega) hB8.size ?_)
      intro v8 w8 ho8 hg8 _
      have HN : Hid (Parts W1.heap.size w8 v8 ([f.data.toList, quoteF t] ++ (writeL numT ks).take (k + 1)) ∧ Below W1.heap.size W1 w8) := Lib.hid ⟨HNX.out _ _ (parts_more (ps' := [([] : List UInt8) ++ TX]) hox rfl (parts_one hxe hxl hE8) ho8 hg8), hB8.grown hg8 hB8.size (fun r e => (hox.lt r e).1)⟩
      clear ho8 hg8 hox hxe hxl hE8 hRn hB8 hi1 hi2 hi3 hi4 hj1 hj2 hj3 hj4 hB7
      go_wp2_with fail
      go_roundw
      case rel => exact ⟨k + 1, by omega, by go_num, HN⟩
      case measure => simp [intOf]; omega
    · obtain rfl : k = ks.length := by omega
      obtain ⟨wo, hwo⟩ : ∃ wo : World, wo = wr := ⟨_, rfl⟩
      subst hwo
      have hall : (writeL numT ks).take ks.length = writeL numT ks := List.take_of_length_le (by rw [writeL_len]; exact Nat.le_refl _)
      rw [hall] at HP
      generalize hPS : [f.data.toList, quoteF t] ++ writeL numT ks = PS at *
      obtain ⟨ao, ca, hao⟩ := HP.out.1.slice
      subst hao
      have HPL : Hid (PS.length ≤ ks.length + 3) := Lib.hid (by rw [← hPS, List.length_append, writeL_len]; simp only [List.length_cons, List.length_nil]; omega)
      have HPS := Lib.hid hPS
      clear hall hPS HKS
      obtain ⟨hi1, hi2, hi3, hi4⟩ := HI.out
      have HJ0 : Hid (Jn W1.heap.size wo w (wordF 3) (.slice ab (wordF 3).length cb) wo) := Lib.hid ⟨HB.out.below HP.out.2 (Nat.le_refl _), fun g e => .inl (HBl.out g e), HWr.out, fun g _ _ => rfl, Nat.le_refl _, HWr.out.size⟩
      have HJ1 := Lib.hid (HJ0.out.alloc (.cells #[.int .u8 40] 5))
      have hpl := HPL.out
      have hlen0 := HLEN.out
      unfold maxW at hlen0
      rw [List.length_append, show ([40] : List UInt8).length = 1 from rfl] at hlen0
      go_wp2_with (at_builtin; refine wpList_appendX _ rfl (.tmp 119) (.tmp 120) 43 rfl w.heap.size 5 i0 (.int .u8 0) 1 1 Tryd.underlying43 hi1 hi2 hi3 hi4 rfl (by decide) _ _ _ rfl HJ1.out.own _ _ 1 1 [.int .u8 40] rfl (reads_new wo 5 [.int .u8 40] 1 rfl) (by intro y hy; simp only [List.mem_cons, List.not_mem_nil, or_false] at hy; subst hy; rfl) (by unfold maxLen; omega) (by omega) HJ1.out.base ?_)
      intro vb w3 ho3 hg3 hv3
      have HJ2 : Hid (Jn W1.heap.size wo w (wordF 3 ++ [40] ++ joinF [44, 32] (PS.take 0)) vb w3) := Lib.hid (by rw [List.take_zero, joinF, List.append_nil]; exact HJ1.out.app (p := [40]) ho3 hg3 (hv3.imp (fun h => h) (fun h => by rw [h]; simp)))
      clear ho3 hg3 hv3 HJ0 HJ1 q9 hi1 hi2 hi3 hi4
      have hpm : PS.length ≤ 9223372036854775807 := by omega
      go_wp2_with fail
      go_loopw [3, 7] (fun v i wz => ∃ j : Nat, j ≤ PS.length ∧ i = .int .i64 j ∧ Hid (Jn W1.heap.size wo w (wordF 3 ++ [40] ++ joinF [44, 32] (PS.take j)) v wz)) (fun _ i _ => PS.length - (intOf i).toNat)
      case atStart => exact ⟨0, by omega, rfl, HJ2⟩
      case round =>
        clear HJ2
        obtain ⟨j, hj, rfl, HN⟩ := hrel
        obtain ⟨ab3, cb3, hab3⟩ := HN.out.own.slice
        subst hab3
        obtain ⟨hi1, hi2, hi3, hi4⟩ := HI.out
        by_cases hjl : j < PS.length
        · have hjl2 : (j : Int) < (PS.length : Int) := by omega
          obtain ⟨g4, x4, B4, m4, hA4, _, hc4, hr4⟩ := parts_at HP.out.1 HN.out hjl
          subst hA4
          have HJT := Lib.hid (join_take hjl)
          have hle := join_le PS (j + 1)
          generalize hpj : PS[j] = pj at *
          have HPJ := Lib.hid hpj
          clear hpj
          by_cases h0 : j = 0
          · have d0 : decide (0 < j) = false := decide_eq_false (by omega)
            have HE : Hid (wordF 3 ++ [40] ++ joinF [44, 32] (PS.take (j + 1)) = (wordF 3 ++ [40] ++ joinF [44, 32] (PS.take j)) ++ pj) := Lib.hid (by rw [HJT.out, if_pos h0, h0]; simp [joinF])
            have hlx : (wordF 3 ++ [40] ++ joinF [44, 32] (PS.take j)).length + pj.length + 100 ≤ 140737488355328 := by
              have h2 := congrArg List.length HE.out
              rw [List.length_append, List.length_append, List.length_append (bs := pj), show ([40] : List UInt8).length = 1 from rfl] at h2
              omega
            clear HJT h0 hle
            generalize wordF 3 ++ [40] ++ joinF [44, 32] (PS.take j) = LJ at *
            go_wp2_with (at_builtin; refine wpList_appendX _ rfl (.tmp 133) (.tmp 137) 43 rfl w.heap.size 5 i0 (.int .u8 0) 1 1 Tryd.underlying43 hi1 hi2 hi3 hi4 rfl (by decide) _ _ _ rfl HN.out.own _ x4 pj.length m4 _ rfl hr4 cells_one (by unfold maxLen; omega) (by omega) HN.out.base ?_)
            intro v5 w5 ho5 hg5 hv5
            have HN5 : Hid (Jn W1.heap.size wo w (wordF 3 ++ [40] ++ joinF [44, 32] (PS.take (j + 1))) v5 w5) := Lib.hid (by rw [HE.out]; exact HN.out.app ho5 hg5 hv5)
            clear ho5 hg5 hv5 hc4 hr4 hi1 hi2 hi3 hi4
            go_wp2_with fail
            go_roundw
            case rel => exact ⟨j + 1, by omega, by go_num, HN5⟩
            case measure => simp [intOf]; omega
          · have d0 : decide (0 < j) = true := decide_eq_true (by omega)
            have HE : Hid (wordF 3 ++ [40] ++ joinF [44, 32] (PS.take (j + 1)) = ((wordF 3 ++ [40] ++ joinF [44, 32] (PS.take j)) ++ [44, 32]) ++ pj) := Lib.hid (by rw [HJT.out, if_neg h0]; simp)
            have hlx : (wordF 3 ++ [40] ++ joinF [44, 32] (PS.take j)).length + 2 + pj.length + 100 ≤ 140737488355328 := by
              have h2 := congrArg List.length HE.out
              rw [List.length_append, List.length_append, List.length_append (bs := pj), List.length_append (bs := [44, 32]), show ([40] : List UInt8).length = 1 from rfl, show ([44, 32] : List UInt8).length = 2 from rfl] at h2
              omega
            clear HJT h0 hle
            generalize wordF 3 ++ [40] ++ joinF [44, 32] (PS.take j) = LJ at *
            have HNa := Lib.hid (HN.out.alloc (.cells #[.int .u8 44, .int .u8 32] 5))
            clear hc4 hr4
            go_wp2_with (at_builtin; refine wpList_appendX _ rfl (.tmp 130) (.tmp 131) 43 rfl w.heap.size 5 i0 (.int .u8 0) 1 1 Tryd.underlying43 hi1 hi2 hi3 hi4 rfl (by decide) _ _ _ rfl HNa.out.own _ _ 2 2 [.int .u8 44, .int .u8 32] rfl (reads_new wr 5 [.int .u8 44, .int .u8 32] 2 rfl) (by intro y hy; simp only [List.mem_cons, List.not_mem_nil, or_false] at hy; rcases hy with rfl | rfl <;> rfl) (by unfold maxLen; omega) (by omega) HNa.out.base ?_)
            intro v4' w4 ho4 hg4 hv4
            have HN4 : Hid (Jn W1.heap.size wo w (LJ ++ [44, 32]) v4' w4) := Lib.hid (HNa.out.app (p := [44, 32]) ho4 hg4 (hv4.imp (fun h => h) (fun h => by rw [h]; simp)))
            clear ho4 hg4 hv4 HNa
            obtain ⟨ab4, cb4, hab4⟩ := HN4.out.own.slice
            subst hab4
            obtain ⟨g5, x5, B5, m5, hA5, _, hc5, hr5⟩ := parts_at HP.out.1 HN4.out hjl
            injection hA5 with hA5
            injection hA5 with hA5
            subst hA5
            rw [HPJ.out] at hc5 hr5
            have hlx2 : (LJ ++ [44, 32]).length + pj.length + 100 ≤ 140737488355328 := by rw [List.length_append, show ([44, 32] : List UInt8).length = 2 from rfl]; omega
            generalize LJ ++ [44, 32] = LJ2 at *
            go_wp2_with (at_builtin; refine wpList_appendX _ rfl (.tmp 133) (.tmp 137) 43 rfl w.heap.size 5 i0 (.int .u8 0) 1 1 Tryd.underlying43 hi1 hi2 hi3 hi4 rfl (by decide) _ _ _ rfl HN4.out.own _ x5 pj.length m5 _ rfl hr5 cells_one (by unfold maxLen; omega) (by omega) HN4.out.base ?_)
            intro v5 w5 ho5 hg5 hv5
            have HN5 : Hid (Jn W1.heap.size wo w (wordF 3 ++ [40] ++ joinF [44, 32] (PS.take (j + 1))) v5 w5) := Lib.hid (by rw [HE.out]; exact HN4.out.app ho5 hg5 hv5)
            clear ho5 hg5 hv5 hc5 hr5 hi1 hi2 hi3 hi4
            go_wp2_with fail
            go_roundw
            case rel => exact ⟨j + 1, by omega, by go_num, HN5⟩
            case measure => simp [intOf]; omega
        · obtain rfl : j = PS.length := by omega
          have hle : (wordF 3 ++ [40] ++ joinF [44, 32] (PS.take PS.length)).length + 100 ≤ 140737488355328 := by
            rw [List.take_length, List.length_append, List.length_append, show ([40] : List UInt8).length = 1 from rfl]
            omega
          have HE : Hid (writeF numT (.mk 3 oc f t u lo hi bo op ks) = (wordF 3 ++ [40] ++ joinF [44, 32] (PS.take PS.length)) ++ [41]) := Lib.hid (by rw [HWF.out, List.take_length]; simp)
          have HNa := Lib.hid (HN.out.alloc (.cells #[.int .u8 41] 5))
          generalize wordF 3 ++ [40] ++ joinF [44, 32] (PS.take PS.length) = LJ at *
          go_wp2_with (at_builtin; refine wpList_appendX _ rfl (.tmp 139) (.tmp 140) 43 rfl w.heap.size 5 i0 (.int .u8 0) 1 1 Tryd.underlying43 hi1 hi2 hi3 hi4 rfl (by decide) _ _ _ rfl HNa.out.own _ _ 1 1 [.int .u8 41] rfl (reads_new wr 5 [.int .u8 41] 1 rfl) (by intro y hy; simp only [List.mem_cons, List.not_mem_nil, or_false] at hy; subst hy; rfl) (by unfold maxLen; omega) (by omega) HNa.out.base ?_)
          intro v5 w5 ho5 hg5 hv5
          have HN5 : Hid (Jn W1.heap.size wo w (LJ ++ [41]) v5 w5) := Lib.hid (HNa.out.app (p := [41]) ho5 hg5 (hv5.imp (fun h => h) (fun h => by rw [h]; simp)))
          clear ho5 hg5 hv5 hi1 hi2 hi3 hi4 HNa
          go_wp2_with fail
          go_ret
          exact ⟨_, rfl, by rw [HE.out]; exact HN5.out.own, HN5.out.below⟩
set_option maxRecDepth 100000 in
set_option maxHeartbeats 16000000 in
theorem rwrite_4 (h : RAsk 4 oc f t u lo hi bo op ks L Hh Kd ck w) :
    Calls Tryd.prog 28 #[.agg #[.int .i64 4, .int .i64 oc, .string f, .string t, .string u, .slice L lo.length cl, .slice Hh hi.length ch, .int .i64 bo, .int .i64 op, .slice Kd ks.length ck]] w (RowBX (writeF numT (.mk 4 oc f t u lo hi bo op ks)) w) := by
  have HA := Lib.hid h
  obtain ⟨i0, hi1, hi2, hi3, hi4⟩ := info_parts infoU8
  obtain ⟨j0, hj1, hj2, hj3, hj4⟩ := info_parts infoS8
  have HI := Lib.hid (And.intro hi1 (And.intro hi2 (And.intro hi3 hi4)))
  have HJ := Lib.hid (And.intro hj1 (And.intro hj2 (And.intro hj3 hj4)))
  clear hi1 hi2 hi3 hi4 hj1 hj2 hj3 hj4
  have HOK : Hid (f.size ≤ 140737488351232 ∧ t.size ≤ 140737488351232 ∧ u.size ≤ 140737488351232 ∧ (lo.length * 8 ≤ 140737488351232 ∧ ∀ z ∈ lo, I64 z) ∧ (hi.length * 8 ≤ 140737488351232 ∧ ∀ z ∈ hi, I64 z) ∧ I64 bo ∧ ks.length * 152 ≤ 140737488351232) := Lib.hid (by
    cases h.ok with
    | mk _ _ a1 a2 a3 a4 a5 a6 _ a7 _ => exact ⟨a1, a2, a3, a4, a5, a6, a7⟩)
  have hW : writeF numT (.mk 4 oc f t u lo hi bo op ks) = wordF 4 ++ 40 :: (joinF [44, 32] ([f.data.toList, quoteF t] ++ writeL numT ks) ++ [41]) := by
    rw [writeF, if_neg (by decide)]; rfl
  have HWF := Lib.hid hW
  have HLEN : Hid ((wordF 4 ++ [40]).length + (joinF [44, 32] ([f.data.toList, quoteF t] ++ writeL numT ks)).length + 401 ≤ maxW) := Lib.hid (by
    have := h.len
    rw [hW] at this
    simp only [List.length_append, List.length_cons, List.length_nil] at *
    omega)
  clear hW
  clear h
  go_enter Tryd.func28, Tryd.ntmps28
  go_upto_region 1 with fail
  have HQ0 := Lib.hid (Blk.new w 25 #[.int .i64 4, .int .i64 oc, .string f, .string t, .string u, .slice L lo.length cl, .slice Hh hi.length ch, .int .i64 bo, .int .i64 op, .slice Kd ks.length ck])
  have HW0 := Lib.hid ((Below.refl _ w).alloc (Nat.le_refl _) (.cells #[.int .i64 4, .int .i64 oc, .string f, .string t, .string u, .slice L lo.length cl, .slice Hh hi.length ch, .int .i64 bo, .int .i64 op, .slice Kd ks.length ck] 25))
  have hz0 : (w.alloc (.cells #[.int .i64 4, .int .i64 oc, .string f, .string t, .string u, .slice L lo.length cl, .slice Hh hi.length ch, .int .i64 bo, .int .i64 op, .slice Kd ks.length ck] 25)).heap.size = w.heap.size + 1 := by simp
  generalize (w.alloc (.cells #[.int .i64 4, .int .i64 oc, .string f, .string t, .string u, .slice L lo.length cl, .slice Hh hi.length ch, .int .i64 bo, .int .i64 op, .slice Kd ks.length ck] 25)) = W0 at *
  refine wp_region_held_drew (S := fun V => Below W0.heap.size W0 V) (by kernel_rfl) (Below.refl _ W0).drew (fun hSd0 => ?_)
  refine' wpAnyH_take (i := 1) (v := _) (by simp only [List.getElem?_toArray, List.getElem?_cons_succ, List.getElem?_cons_zero]; rfl) (by kernel_rfl) (by kernel_rfl) (by kernel_rfl) (by exact fun _ _ _ h => h) (Or.inl ⟨by rfl, ?hyd1⟩) hSd0 ?restd1
  case hyd1 => intro V hSw; clear hSw; go_simp; try with_reducible rfl
  try simp only [Act.put, List.setIfInBounds_toArray, List.set_cons_zero, List.set_cons_succ]
  refine' wpAnyH_take (i := 2) (v := _) (by simp only [List.getElem?_toArray, List.getElem?_cons_succ, List.getElem?_cons_zero]; rfl) (by kernel_rfl) (by kernel_rfl) (by kernel_rfl) (by exact fun _ _ _ h => h) (Or.inl ⟨by rfl, ?hyd2⟩) hSd0 ?restd2
  case hyd2 => intro V hSw; have fq := (HQ0.out.below hSw HQ0.out.lt).cell 0; clear hSw; go_simp; try with_reducible rfl
  try simp only [Act.put, List.setIfInBounds_toArray, List.set_cons_zero, List.set_cons_succ]
  refine wpAnyH_ready (rs := [0]) (by kernel_rfl) (by simp) ?_
  refine' AllReadyH.cons (by simp only [List.getElem?_toArray, List.getElem?_cons_zero]; rfl) (fun KC hK => ?_) AllReadyH.nil
  go_simp
  refine (rwords_any _).mono ?_
  rintro e V1 ⟨rfl, hb, hc⟩
  have hc : V1.cell? ⟨w.heap.size + 1, 4, none⟩ = some (.string (str (wordF 4))) := by rw [← hz0]; exact hc 4 (by decide) (by decide)
  have hs1 : Below W0.heap.size W0 V1 := hSd0.trans (hb.mono hSd0.size)
  clear hb
  go_simp
  refine hK.out _ _ hs1 (fun hSd1 => ?_)
  clear hK hs1
  try simp only [Act.put, List.setIfInBounds_toArray, List.set_cons_zero, List.set_cons_succ]
  refine' wpAnyH_take (i := 3) (v := _) (by simp only [List.getElem?_toArray, List.getElem?_cons_succ, List.getElem?_cons_zero]; rfl) (by kernel_rfl) (by kernel_rfl) (by kernel_rfl) (by exact fun _ _ _ h => h) (Or.inl ⟨by rfl, ?hyd3⟩) hSd1 ?restd3
  case hyd3 => intro V hSw; clear hSw; go_simp; try with_reducible rfl
  try simp only [Act.put, List.setIfInBounds_toArray, List.set_cons_zero, List.set_cons_succ]
  refine wpAnyH_ready (rs := [4]) (by kernel_rfl) (by simp) ?_
  refine' AllReadyH.cons (by simp only [List.getElem?_toArray, List.getElem?_cons_succ, List.getElem?_cons_zero]; rfl) (fun KC hK => ?_) AllReadyH.nil
  go_simp
  refine hK.out _ _ hSd1 (fun hSd2 => ?_)
  clear hK
  try simp only [Act.put, List.setIfInBounds_toArray, List.set_cons_zero, List.set_cons_succ]
  refine wpAnyH_ready (rs := [5]) (by kernel_rfl) (by simp) ?_
  refine' AllReadyH.cons (by simp only [List.getElem?_toArray, List.getElem?_cons_succ, List.getElem?_cons_zero]; rfl) (fun KC hK => ?_) AllReadyH.nil
  have hcv := Lib.run_convert_string_bytes (P := Tryd.prog) V1 9 43 5 (str (wordF 4)) (u := .string) Tryd.underlying9 Tryd.underlying43 Tryd.underlying5
  have hox := ownX_bytes V1 w.heap.size 5 (str (wordF 4)) (by have := hSd1.size; omega) (by decide)
  have hbb := below_bytes V1 5 (str (wordF 4))
  generalize Lib.bytesWorld V1 5 (str (wordF 4)) = W1 at *
  go_simp
  have hs1 : Below W0.heap.size W0 W1 := hSd1.trans (hbb.mono hSd1.size)
  refine hK.out _ _ hs1 (fun hSd3 => ?_)
  clear hK
  try simp only [Act.put, List.setIfInBounds_toArray, List.set_cons_zero, List.set_cons_succ]
  refine' wpAnyH_take (i := 6) (v := _) (by simp only [List.getElem?_toArray, List.getElem?_cons_succ, List.getElem?_cons_zero]; rfl) (by kernel_rfl) (by kernel_rfl) (by kernel_rfl) (by exact fun _ _ _ h => h) (Or.inl ⟨by rfl, ?hyd6⟩) hSd3 ?restd6
  case hyd6 => intro V hSw; clear hSw; go_simp; try with_reducible rfl
  try simp only [Act.put, List.setIfInBounds_toArray, List.set_cons_zero, List.set_cons_succ]
  refine wpAnyH_done (by kernel_rfl) ?_ _
  obtain ⟨ab, cb, hab⟩ := hox.slice
  have HB : Hid (OwnX W1 w.heap.size 5 1 (.slice ab (wordF 4).length cb) (wordF 4).length (Lib.byteCells (wordF 4))) := Lib.hid (by rw [hab] at hox; exact hox)
  rw [hab]
  have HBl : Hid (∀ g, (Value.slice ab (wordF 4).length cb).ownBlock = some g → g < W1.heap.size) := Lib.hid (fun g hg => (HB.out.lt g hg).2)
  clear hSd0 hSd1 hSd2 hSd3 hcv hab hox hbb hc
  have HQ1 := Lib.hid (HQ0.out.below hs1 HQ0.out.lt)
  have HW1 := Lib.hid (HW0.out.trans (hs1.mono HW0.out.size))
  have hz1 : w.heap.size + 1 ≤ W1.heap.size := HQ1.out.lt
  clear hs1 hz0
  obtain ⟨c0, c1, c2, c3, c4, c5, c6, c7, c8, c9⟩ := tenB HQ1.out
  have HLq1 : Hid ((quoteF t).length ≤ 140737488355000) := Lib.hid (by have := part_le (ps := [f.data.toList]) (x := quoteF t) (rest := [] ++ writeL numT ks) (all := [f.data.toList, quoteF t] ++ writeL numT ks) rfl; have := HLEN.out; unfold maxW at this; omega)
  go_upto_region 9 with fail
  clear c0 c1 c2 c3 c4 c5 c6 c7 c8 c9
  refine wp_mono (Q := fun ex a' V => ex = .normal ∧ ∃ x0 x1  Ab v', Parts W1.heap.size V v' [f.data.toList, quoteF t] ∧ Below W1.heap.size W1 V ∧ a' = { tmps := #[Value.agg #[Value.int IntKind.i64 4, Value.int IntKind.i64 oc, Value.string f, Value.string t, Value.string u, Value.slice L lo.length cl, Value.slice Hh hi.length ch, Value.int IntKind.i64 bo, Value.int IntKind.i64 op, Value.slice Kd ks.length ck], Value.pointer (some { block := w.heap.size, off := 0 }), Value.slice none 0 0, Value.slice ab (str (wordF 4)).size cb, v', undef, undef, undef, Value.slice (some { block := w.heap.size + 1, off := 0 }) 11 11, Value.pointer (some { block := w.heap.size, off := 0 }), Value.int IntKind.i64 4, Value.pointer (some { block := w.heap.size + 1, off := 4 }), Value.string (str (wordF 4)), Value.slice ab (str (wordF 4)).size cb, Value.pointer (some { block := w.heap.size, off := 0 }), Value.int IntKind.i64 4, Value.bool false, undef, Value.pointer (some { block := w.heap.size, off := 0 }), Value.int IntKind.i64 4, Value.bool true, Value.bool false, Value.bool true, undef, Value.slice none 0 0, Value.pointer (some { block := w.heap.size, off := 2 }), Value.string f, x0, Value.pointer (some { block := w.heap.size, off := 3 }), Value.string t, x1, Value.slice Ab 2 2, v', undef, undef, undef, undef, undef, undef, undef, undef, undef, undef, undef, undef, undef, undef, undef, undef, undef, undef, undef, undef, undef, undef, undef, undef, undef, undef, undef, undef, undef, undef, undef, undef, undef, undef, undef, undef, undef, undef, undef, undef, undef, undef, undef, undef, undef, undef, undef, undef, undef, undef, undef, undef, undef, undef, undef, undef, undef, undef, undef, undef, undef, undef, undef, undef, undef, undef, undef, undef, undef, undef, undef, undef, undef, undef, undef, undef, undef, undef, undef, undef, undef, undef, undef, undef, undef, undef, undef, undef, undef, undef, undef, undef, undef, undef, undef, undef, undef, undef, undef, undef, undef, undef, undef, undef, undef, undef, undef, undef, undef], defers := [] }) ?region ?rest
  case region =>
    obtain ⟨hj1, hj2, hj3, hj4⟩ := HJ.out
    refine wp_region_held_drew (S := fun V => Below W1.heap.size W1 V) (by kernel_rfl) (Below.refl _ W1).drew (fun hS0 => ?_)
    generalize W1.drew = V0 at hS0 ⊢
    refine' wpAnyH_take (i := 0) (v := _) (by simp only [List.getElem?_toArray, List.getElem?_cons_zero]; rfl) (by kernel_rfl) (by kernel_rfl) (by kernel_rfl) (by rintro _ _ _ ⟨h, _⟩; cases h) (Or.inl ⟨by rfl, ?hm0_1⟩) hS0 ?rm0_1
    case hm0_1 => intro V hSw; clear hSw; go_simp; try with_reducible rfl
    try simp only [Act.put, List.setIfInBounds_toArray, List.set_cons_zero, List.set_cons_succ]
    refine' wpAnyH_take (i := 1) (v := _) (by simp only [List.getElem?_toArray, List.getElem?_cons_succ, List.getElem?_cons_zero]; rfl) (by kernel_rfl) (by kernel_rfl) (by kernel_rfl) (by rintro _ _ _ ⟨h, _⟩; cases h) (Or.inl ⟨by rfl, ?hm1_2⟩) hS0 ?rm1_2
    case hm1_2 => intro V hSw; clear hSw; go_simp; try with_reducible rfl
    try simp only [Act.put, List.setIfInBounds_toArray, List.set_cons_zero, List.set_cons_succ]
    refine' wpAnyH_take (i := 2) (v := _) (by simp only [List.getElem?_toArray, List.getElem?_cons_succ, List.getElem?_cons_zero]; rfl) (by kernel_rfl) (by kernel_rfl) (by kernel_rfl) (by rintro _ _ _ ⟨h, _⟩; cases h) (Or.inl ⟨by rfl, ?hm2_3⟩) hS0 ?rm2_3
    case hm2_3 => intro V hSw; have fq := (HQ1.out.below hSw HQ1.out.lt).cell 2; clear hSw; go_simp; try with_reducible rfl
    try simp only [Act.put, List.setIfInBounds_toArray, List.set_cons_zero, List.set_cons_succ]
    refine' wpAnyH_take (i := 4) (v := _) (by simp only [List.getElem?_toArray, List.getElem?_cons_succ, List.getElem?_cons_zero]; rfl) (by kernel_rfl) (by kernel_rfl) (by kernel_rfl) (by rintro _ _ _ ⟨h, _⟩; cases h) (Or.inl ⟨by rfl, ?hm4_4⟩) hS0 ?rm4_4
    case hm4_4 => intro V hSw; clear hSw; go_simp; try with_reducible rfl
    try simp only [Act.put, List.setIfInBounds_toArray, List.set_cons_zero, List.set_cons_succ]
    refine' wpAnyH_take (i := 5) (v := _) (by simp only [List.getElem?_toArray, List.getElem?_cons_succ, List.getElem?_cons_zero]; rfl) (by kernel_rfl) (by kernel_rfl) (by kernel_rfl) (by rintro _ _ _ ⟨h, _⟩; cases h) (Or.inl ⟨by rfl, ?hm5_5⟩) hS0 ?rm5_5
    case hm5_5 => intro V hSw; have fq := (HQ1.out.below hSw HQ1.out.lt).cell 3; clear hSw; go_simp; try with_reducible rfl
    try simp only [Act.put, List.setIfInBounds_toArray, List.set_cons_zero, List.set_cons_succ]
    refine wpAnyH_ready (rs := [3, 6]) (by kernel_rfl) (by simp) ?_
    refine' AllReadyH.cons (by simp only [List.getElem?_toArray, List.getElem?_cons_succ, List.getElem?_cons_zero]; rfl) (fun K hK => ?_) ?_
    · skip
      have hcv := Lib.run_convert_string_bytes (P := Tryd.prog) V0 9 43 5 f (u := .string) Tryd.underlying9 Tryd.underlying43 Tryd.underlying5
      have hox := ownX_bytes V0 W1.heap.size 5 f hS0.size (by have := HOK.out.1; unfold maxLen; omega)
      have hbb := below_bytes V0 5 f
      generalize Lib.bytesWorld V0 5 f = V1 at *
      generalize hxv : Value.slice (some ⟨V0.heap.size, 0, none⟩) f.size (grownCap V0 f.size 0 5) = x0 at *
      clear hxv
      go_simp
      have hE0 : Elt V1 W1.heap.size V1.heap.size x0 (f.data.toList) := Elt.ofX hox (Nat.le_refl _)
      have hS1 : Below W1.heap.size W1 V1 := hS0.trans (hbb.mono hS0.size)
      refine hK.out _ _ hS1 (fun hT => ?_)
      clear hK hcv hox hT
      try simp only [Act.put, List.setIfInBounds_toArray, List.set_cons_zero, List.set_cons_succ]
      clear hbb
      refine wpAnyH_ready (rs := [6]) (by kernel_rfl) (by simp) ?_
      refine' AllReadyH.cons (by simp only [List.getElem?_toArray, List.getElem?_cons_succ, List.getElem?_cons_zero]; rfl) (fun K hK => ?_) ?_
      · skip
        go_simp
        refine (rquoted_any t _ HLq1.out).mono ?_
        rintro e V2 ⟨x1, rfl, ho, hb⟩
        have hE1 : Elt V2 W1.heap.size V2.heap.size x1 (quoteF t) := Elt.ofX (OwnX.of ho) hS1.size
        have hS2 : Below W1.heap.size W1 V2 := hS1.trans (hb.mono hS1.size)
        replace hE0 := hE0.below hb (Nat.le_refl _)
        clear ho hb
        go_simp
        refine hK.out _ _ hS2 (fun hT => ?_)
        clear hK hT
        try simp only [Act.put, List.setIfInBounds_toArray, List.set_cons_zero, List.set_cons_succ]
        obtain ⟨A0, C0, hx⟩ := hE0.slice
        replace hx : x0 = .slice A0 f.size C0 := hx
        subst hx
        obtain ⟨A1, C1, hx⟩ := hE1.slice
        replace hx : x1 = .slice A1 (quoteF t).length C1 := hx
        subst hx
        refine wpAnyH_ready (rs := [7]) (by kernel_rfl) (by simp) ?_
        refine' AllReadyH.cons (by simp only [List.getElem?_toArray, List.getElem?_cons_succ, List.getElem?_cons_zero]; rfl) (fun K hK => ?_) AllReadyH.nil
        have hRn := reads_new V2 43 [.slice A0 f.size C0, .slice A1 (quoteF t).length C1] 2 rfl
        go_simp
        replace hE0 := hE0.below ((Below.refl _ V2).alloc (Nat.le_refl _) (.cells #[.slice A0 f.size C0, .slice A1 (quoteF t).length C1] 43)) (Nat.le_refl _)
        replace hE1 := hE1.below ((Below.refl _ V2).alloc (Nat.le_refl _) (.cells #[.slice A0 f.size C0, .slice A1 (quoteF t).length C1] 43)) (Nat.le_refl _)
        have hS3 := Below.alloc hS2 hS2.size (.cells #[.slice A0 f.size C0, .slice A1 (quoteF t).length C1] 43)
        generalize hAb : (some ⟨V2.heap.size, 0, none⟩ : Option Addr) = Ab at *
        clear hAb
        generalize V2.alloc (.cells #[.slice A0 f.size C0, .slice A1 (quoteF t).length C1] 43) = V3 at *
        refine hK.out _ _ hS3 (fun hT => ?_)
        clear hK
        try simp only [Act.put, List.setIfInBounds_toArray, List.set_cons_zero, List.set_cons_succ]
        refine wpAnyH_ready (rs := [8]) (by kernel_rfl) (by simp) ?_
        refine' AllReadyH.cons (by simp only [List.getElem?_toArray, List.getElem?_cons_succ, List.getElem?_cons_zero]; rfl) (fun K hK => ?_) AllReadyH.nil
        refine step_append_any _ rfl (.tmp 24) (.tmp 31) 74 rfl W1.heap.size 43 j0 (.slice none 0 0) 1 24 Tryd.underlying74 hj1 hj2 hj3 hj4 rfl (by decide) (.slice none 0 0) 0 [] rfl (World.ownsRow_nil _ _ _ _) _ Ab 2 2 [.slice A0 f.size C0, .slice A1 (quoteF t).length C1] rfl hRn (by intro y hy; simp only [List.mem_cons, List.not_mem_nil, or_false] at hy; rcases hy with rfl | rfl; exact hE0.one; exact hE1.one) (by decide) (by decide) hS3.size ?_
        intro v' w' ho hg _
        have hP : Parts W1.heap.size w' v' [f.data.toList, quoteF t] := parts_more (ps := []) (ps' := [f.data.toList, quoteF t]) (World.ownsRow_nil _ _ _ _) rfl (parts_one (xs := [.slice A0 f.size C0]) (ps := [f.data.toList]) (parts_one (xs := []) (ps := []) (fun i x p h => by simp at h) rfl hE0) rfl hE1) ho hg
        have hSe : Below W1.heap.size W1 w' := hS3.grown hg hS3.size (fun r e => by cases e)
        refine hK.out _ _ hSe (fun hT => ?_)
        clear hK
        try simp only [Act.put, List.setIfInBounds_toArray, List.set_cons_zero, List.set_cons_succ]
        refine' wpAnyH_take (i := 9) (v := _) (by simp only [List.getElem?_toArray, List.getElem?_cons_succ, List.getElem?_cons_zero]; rfl) (by kernel_rfl) (by kernel_rfl) (by kernel_rfl) (by rintro _ _ _ ⟨h, _⟩; cases h) (Or.inl ⟨by rfl, ?hm9_6⟩) hSe ?rm9_6
        case hm9_6 => intro V hSw; clear hSw; go_simp; try with_reducible rfl
        try simp only [Act.put, List.setIfInBounds_toArray, List.set_cons_zero, List.set_cons_succ]
        refine wpAnyH_done (by kernel_rfl) ?_ _
        exact ⟨rfl, .slice A0 f.size C0, .slice A1 (quoteF t).length C1, Ab, v', hP, hSe, rfl⟩
      exact AllReadyH.nil
    refine' AllReadyH.cons (by simp only [List.getElem?_toArray, List.getElem?_cons_succ, List.getElem?_cons_zero]; rfl) (fun K hK => ?_) ?_
    · skip
      go_simp
      refine (rquoted_any t _ HLq1.out).mono ?_
      rintro e V1 ⟨x1, rfl, ho, hb⟩
      have hE1 : Elt V1 W1.heap.size V1.heap.size x1 (quoteF t) := Elt.ofX (OwnX.of ho) hS0.size
      have hS1 : Below W1.heap.size W1 V1 := hS0.trans (hb.mono hS0.size)
      clear ho hb
      go_simp
      refine hK.out _ _ hS1 (fun hT => ?_)
      clear hK hT
      try simp only [Act.put, List.setIfInBounds_toArray, List.set_cons_zero, List.set_cons_succ]
      refine wpAnyH_ready (rs := [3]) (by kernel_rfl) (by simp) ?_
      refine' AllReadyH.cons (by simp only [List.getElem?_toArray, List.getElem?_cons_succ, List.getElem?_cons_zero]; rfl) (fun K hK => ?_) ?_
      · skip
        have hcv := Lib.run_convert_string_bytes (P := Tryd.prog) V1 9 43 5 f (u := .string) Tryd.underlying9 Tryd.underlying43 Tryd.underlying5
        have hox := ownX_bytes V1 W1.heap.size 5 f hS1.size (by have := HOK.out.1; unfold maxLen; omega)
        have hbb := below_bytes V1 5 f
        generalize Lib.bytesWorld V1 5 f = V2 at *
        generalize hxv : Value.slice (some ⟨V1.heap.size, 0, none⟩) f.size (grownCap V1 f.size 0 5) = x0 at *
        clear hxv
        go_simp
        replace hE1 := hE1.below hbb (Nat.le_refl _)
        have hE0 : Elt V2 W1.heap.size V2.heap.size x0 (f.data.toList) := Elt.ofX hox (Nat.le_refl _)
        have hS2 : Below W1.heap.size W1 V2 := hS1.trans (hbb.mono hS1.size)
        refine hK.out _ _ hS2 (fun hT => ?_)
        clear hK hcv hox hT
        try simp only [Act.put, List.setIfInBounds_toArray, List.set_cons_zero, List.set_cons_succ]
        clear hbb
        obtain ⟨A0, C0, hx⟩ := hE0.slice
        replace hx : x0 = .slice A0 f.size C0 := hx
        subst hx
        obtain ⟨A1, C1, hx⟩ := hE1.slice
        replace hx : x1 = .slice A1 (quoteF t).length C1 := hx
        subst hx
        refine wpAnyH_ready (rs := [7]) (by kernel_rfl) (by simp) ?_
        refine' AllReadyH.cons (by simp only [List.getElem?_toArray, List.getElem?_cons_succ, List.getElem?_cons_zero]; rfl) (fun K hK => ?_) AllReadyH.nil
        have hRn := reads_new V2 43 [.slice A0 f.size C0, .slice A1 (quoteF t).length C1] 2 rfl
        go_simp
        replace hE1 := hE1.below ((Below.refl _ V2).alloc (Nat.le_refl _) (.cells #[.slice A0 f.size C0, .slice A1 (quoteF t).length C1] 43)) (Nat.le_refl _)
        replace hE0 := hE0.below ((Below.refl _ V2).alloc (Nat.le_refl _) (.cells #[.slice A0 f.size C0, .slice A1 (quoteF t).length C1] 43)) (Nat.le_refl _)
        have hS3 := Below.alloc hS2 hS2.size (.cells #[.slice A0 f.size C0, .slice A1 (quoteF t).length C1] 43)
        generalize hAb : (some ⟨V2.heap.size, 0, none⟩ : Option Addr) = Ab at *
        clear hAb
        generalize V2.alloc (.cells #[.slice A0 f.size C0, .slice A1 (quoteF t).length C1] 43) = V3 at *
        refine hK.out _ _ hS3 (fun hT => ?_)
        clear hK
        try simp only [Act.put, List.setIfInBounds_toArray, List.set_cons_zero, List.set_cons_succ]
        refine wpAnyH_ready (rs := [8]) (by kernel_rfl) (by simp) ?_
        refine' AllReadyH.cons (by simp only [List.getElem?_toArray, List.getElem?_cons_succ, List.getElem?_cons_zero]; rfl) (fun K hK => ?_) AllReadyH.nil
        refine step_append_any _ rfl (.tmp 24) (.tmp 31) 74 rfl W1.heap.size 43 j0 (.slice none 0 0) 1 24 Tryd.underlying74 hj1 hj2 hj3 hj4 rfl (by decide) (.slice none 0 0) 0 [] rfl (World.ownsRow_nil _ _ _ _) _ Ab 2 2 [.slice A0 f.size C0, .slice A1 (quoteF t).length C1] rfl hRn (by intro y hy; simp only [List.mem_cons, List.not_mem_nil, or_false] at hy; rcases hy with rfl | rfl; exact hE0.one; exact hE1.one) (by decide) (by decide) hS3.size ?_
        intro v' w' ho hg _
        have hP : Parts W1.heap.size w' v' [f.data.toList, quoteF t] := parts_more (ps := []) (ps' := [f.data.toList, quoteF t]) (World.ownsRow_nil _ _ _ _) rfl (parts_one (xs := [.slice A0 f.size C0]) (ps := [f.data.toList]) (parts_one (xs := []) (ps := []) (fun i x p h => by simp at h) rfl hE0) rfl hE1) ho hg
        have hSe : Below W1.heap.size W1 w' := hS3.grown hg hS3.size (fun r e => by cases e)
        refine hK.out _ _ hSe (fun hT => ?_)
        clear hK
        try simp only [Act.put, List.setIfInBounds_toArray, List.set_cons_zero, List.set_cons_succ]
        refine' wpAnyH_take (i := 9) (v := _) (by simp only [List.getElem?_toArray, List.getElem?_cons_succ, List.getElem?_cons_zero]; rfl) (by kernel_rfl) (by kernel_rfl) (by kernel_rfl) (by rintro _ _ _ ⟨h, _⟩; cases h) (Or.inl ⟨by rfl, ?hm9_7⟩) hSe ?rm9_7
        case hm9_7 => intro V hSw; clear hSw; go_simp; try with_reducible rfl
        try simp only [Act.put, List.setIfInBounds_toArray, List.set_cons_zero, List.set_cons_succ]
        refine wpAnyH_done (by kernel_rfl) ?_ _
        exact ⟨rfl, .slice A0 f.size C0, .slice A1 (quoteF t).length C1, Ab, v', hP, hSe, rfl⟩
      exact AllReadyH.nil
    exact AllReadyH.nil
  rintro ex a' W2 ⟨rfl, x0, x1, Ab, v4, hP, hb2, rfl⟩
  have HP2 := Lib.hid hP; have HB2 := Lib.hid hb2
  clear hP hb2
  obtain ⟨_, _, hke, hckA, hmkA, helK⟩ := at_kids HA.out.kids
  injection hke with hk1 _ hk3
  subst hk1 hk3
  have HKS := Lib.hid helK
  clear helK hckA
  have hks : ks.length * 152 ≤ 140737488351232 := HOK.out.2.2.2.2.2.2
  have H0 : Hid (Parts W1.heap.size W2 v4 ([f.data.toList, quoteF t] ++ (writeL numT ks).take 0) ∧ Below W1.heap.size W1 W2) := Lib.hid ⟨by simpa using HP2.out, HB2.out⟩
  clear HP2 HB2
  go_wp2_with fail
  go_loopw [4, 5] (fun v i wr => ∃ k : Nat, k ≤ ks.length ∧ i = .int .i64 k ∧ Hid (Parts W1.heap.size wr v ([f.data.toList, quoteF t] ++ (writeL numT ks).take k) ∧ Below W1.heap.size W1 wr)) (fun _ i _ => ks.length - (intOf i).toNat)
  case atStart => exact ⟨0, by omega, rfl, H0⟩
  case round =>
    skip
    clear H0
    obtain ⟨k, hk, rfl, HP⟩ := hrel
    have HQr := Lib.hid (HQ1.out.below HP.out.2 HQ1.out.lt)
    have HWr := Lib.hid (HW1.out.trans (HP.out.2.mono HW1.out.size))
    have hzr := HP.out.2.size
    have q9 : wr.cell? ⟨w.heap.size, 9, none⟩ = some (.slice Kd ks.length ck) := HQr.out.cell 9
    by_cases hlt : k < ks.length
    · have hlt2 : (k : Int) < (ks.length : Int) := by omega
      obtain ⟨ad, us, hKe, hba, au, lu, cu⟩ := HKS.out k hlt
      subst hKe
      replace cu := cu.keep (w' := wr) (fun p hp => HWr.out.cell (by rw [hp, block_of_add]; exact hba))
      have HD := Lib.hid (fun (W : World) (hW : Below w.heap.size w W) => HA.out.down ks[k] (List.getElem_mem _) us W (atL_ltw au hW))
      have hocc := HA.out.occ ks[k] (List.getElem_mem _)
      have HX := Lib.hid (kids_takeR hlt)
      have HLK : Hid ((markF (QryP.oc ks[k]) ++ writeF numT ks[k]).length + 400 ≤ maxW) := Lib.hid (by have := kid_part (pc := [f.data.toList, quoteF t]) hlt; have := HLEN.out; omega)
      have HPL : Hid (([f.data.toList, quoteF t] ++ (writeL numT ks).take k).length ≤ ks.length + 3) := Lib.hid (by rw [List.length_append, List.length_take, writeL_len]; simp only [List.length_cons, List.length_nil]; omega)
      have q0 : wr.cell? ⟨w.heap.size, 0, none⟩ = some (.int .i64 4) := HQr.out.cell 0
      generalize hq : ks[k] = q at *
      have HNX : Hid (∀ (W : World) (v : Value), Parts W1.heap.size W v (([f.data.toList, quoteF t] ++ (writeL numT ks).take k) ++ [markF (QryP.oc q) ++ writeF numT q]) → Parts W1.heap.size W v ([f.data.toList, quoteF t] ++ (writeL numT ks).take (k + 1))) := Lib.hid (fun W v h => by rw [HX.out, ← List.append_assoc]; exact h)
      clear HX
      generalize [f.data.toList, quoteF t] ++ (writeL numT ks).take k = PS at *
      obtain ⟨ao, ca, hao⟩ := HP.out.1.slice
      subst hao
      generalize hTX : writeF numT q = TX at *
      clear hTX
      obtain ⟨kd', oc', f', t', u', lo', hi', b', op', ks'⟩ := q
      obtain ⟨vl, vh, vk, rfl, hvl, hvh, hvk⟩ := at_cells au
      obtain ⟨B1, d1, rfl, _⟩ := at_ints hvl
      obtain ⟨B2, d2, rfl, _⟩ := at_ints hvh
      obtain ⟨B3, d3, rfl⟩ := at_sl hvk
      obtain ⟨a0, a1, a2, a3, a4, a5, a6, a7, a8, a9⟩ := ten cu
      have HCU := Lib.hid cu
      clear hq au hvl hvh hvk cu lu
      replace hocc : ((4 : Int) = 8 → 1 ≤ oc' ∧ oc' ≤ 4) ∧ ((4 : Int) ≠ 8 → oc' = 0) := hocc
      change Hid ((markF oc' ++ TX).length + 400 ≤ maxW) at HLK
      change Hid (∀ (W : World) (v : Value), Parts W1.heap.size W v (PS ++ [markF oc' ++ TX]) → Parts W1.heap.size W v ([f.data.toList, quoteF t] ++ (writeL numT ks).take (k + 1))) at HNX
      obtain ⟨hi1, hi2, hi3, hi4⟩ := HI.out
      obtain ⟨hj1, hj2, hj3, hj4⟩ := HJ.out
      obtain rfl : oc' = 0 := hocc.2 (by decide)
      clear hocc
      go_wp2_with fail
      refine (HD.out _ HWr.out).mono ?_
      rintro e w2 ⟨x, rfl, ho, hb⟩
      obtain ⟨A6, C6, hx⟩ := ho.slice
      subst hx
      have hrd := ho.reads
      have hB2 : Below wr.heap.size wr w2 := hb
      have h6 : OwnX w2 wr.heap.size 5 1 (.slice none 0 0) 0 (Lib.byteCells ([] : List UInt8)) := ⟨by simp [Lib.byteCells], .inl ⟨rfl, rfl⟩⟩
      clear ho hb a0 a1 a2 a3 a4 a5 a6 a7 a8 a9 q9 q0 
      have hlk : 0 + TX.length + 400 ≤ maxW := by have := HLK.out; first | (simpa [markF] using this) | (simp [markF] at this; omega)
      have hz2 := hB2.size
      go_wp2_with (at_builtin; refine wpList_appendX _ rfl (.tmp 107) (.tmp 113) 43 rfl wr.heap.size 5 i0 (.int .u8 0) 1 1 Tryd.underlying43 hi1 hi2 hi3 hi4 rfl (by decide) _ _ _ rfl h6 _ A6 TX.length C6 _ rfl hrd cells_one (by unfold maxLen; unfold maxW at hlk; omega) (by unfold maxW at hlk; omega) hz2 ?_)
      intro v7 w7 ho7 hg7 hv7
      have h7 : OwnX w7 wr.heap.size 5 1 v7 (([] : List UInt8) ++ TX).length (Lib.byteCells (([] : List UInt8) ++ TX)) := by
        have e : Lib.byteCells (([] : List UInt8) ++ TX) = Lib.byteCells ([] : List UInt8) ++ Lib.byteCells TX := by simp [Lib.byteCells]
        first | (rw [e, List.length_append]; exact ho7) | exact ho7
      have hB7 : Below wr.heap.size wr w7 := hB2.grown hg7 hz2 (fun r e => (h6.lt r e).1)
      have hE7 : Elt w7 W1.heap.size w7.heap.size v7 (([] : List UInt8) ++ TX) := Elt.ofX h7 hzr
      obtain ⟨A7, C7, hx⟩ := hE7.slice
      subst hx
      have hPz := (HP.out.1.below hB7).below ((Below.refl _ w7).alloc (Nat.le_refl _) (.cells #[.slice A7 (([] : List UInt8) ++ TX).length C7] 43))
      have hE8 := hE7.below ((Below.refl _ w7).alloc (Nat.le_refl _) (.cells #[.slice A7 (([] : List UInt8) ++ TX).length C7] 43)) (Nat.le_refl _)
      obtain ⟨xs, hox, hxl, hxe⟩ := hPz
      have hRn := reads_new w7 43 [.slice A7 (([] : List UInt8) ++ TX).length C7] 1 rfl
      have hB8 : Below W1.heap.size W1 (w7.alloc (.cells #[.slice A7 (([] : List UInt8) ++ TX).length C7] 43)) := (HP.out.2.trans (hB7.mono hzr)).alloc (Nat.le_trans hzr hB7.size) _
      have hpl := HPL.out
      clear ho7 hg7 hv7 h6 hrd hlk hE7 h7 hB2
      go_wp2_with (at_builtin; refine wpList_append_any _ rfl (.tmp 115) (.tmp 117) 74 rfl W1.heap.size 43 j0 (.slice none 0 0) 1 24 Tryd.underlying74 hj1 hj2 hj3 hj4 rfl (by decide) _ _ _ rfl hox _ _ 1 1 [.slice A7 (([] : List UInt8) ++ TX).length C7] rfl hRn (by intro y hy; simp only [List.mem_cons, List.not_mem_nil, or_false] at hy; subst hy; rfl) (by unfold maxLen; omega) (by omega) hB8.size ?_)
      intro v8 w8 ho8 hg8 _
      have HN : Hid (Parts W1.heap.size w8 v8 ([f.data.toList, quoteF t] ++ (writeL numT ks).take (k + 1)) ∧ Below W1.heap.size W1 w8) := Lib.hid ⟨HNX.out _ _ (parts_more (ps' := [([] : List UInt8) ++ TX]) hox rfl (parts_one hxe hxl hE8) ho8 hg8), hB8.grown hg8 hB8.size (fun r e => (hox.lt r e).1)⟩
      clear ho8 hg8 hox hxe hxl hE8 hRn hB8 hi1 hi2 hi3 hi4 hj1 hj2 hj3 hj4 hB7
      go_wp2_with fail
      go_roundw
      case rel => exact ⟨k + 1, by omega, by go_num, HN⟩
      case measure => simp [intOf]; omega
    · obtain rfl : k = ks.length := by omega
      obtain ⟨wo, hwo⟩ : ∃ wo : World, wo = wr := ⟨_, rfl⟩
      subst hwo
      have hall : (writeL numT ks).take ks.length = writeL numT ks := List.take_of_length_le (by rw [writeL_len]; exact Nat.le_refl _)
      rw [hall] at HP
      generalize hPS : [f.data.toList, quoteF t] ++ writeL numT ks = PS at *
      obtain ⟨ao, ca, hao⟩ := HP.out.1.slice
      subst hao
      have HPL : Hid (PS.length ≤ ks.length + 3) := Lib.hid (by rw [← hPS, List.length_append, writeL_len]; simp only [List.length_cons, List.length_nil]; omega)
      have HPS := Lib.hid hPS
      clear hall hPS HKS
      obtain ⟨hi1, hi2, hi3, hi4⟩ := HI.out
      have HJ0 : Hid (Jn W1.heap.size wo w (wordF 4) (.slice ab (wordF 4).length cb) wo) := Lib.hid ⟨HB.out.below HP.out.2 (Nat.le_refl _), fun g e => .inl (HBl.out g e), HWr.out, fun g _ _ => rfl, Nat.le_refl _, HWr.out.size⟩
      have HJ1 := Lib.hid (HJ0.out.alloc (.cells #[.int .u8 40] 5))
      have hpl := HPL.out
      have hlen0 := HLEN.out
      unfold maxW at hlen0
      rw [List.length_append, show ([40] : List UInt8).length = 1 from rfl] at hlen0
      go_wp2_with (at_builtin; refine wpList_appendX _ rfl (.tmp 119) (.tmp 120) 43 rfl w.heap.size 5 i0 (.int .u8 0) 1 1 Tryd.underlying43 hi1 hi2 hi3 hi4 rfl (by decide) _ _ _ rfl HJ1.out.own _ _ 1 1 [.int .u8 40] rfl (reads_new wo 5 [.int .u8 40] 1 rfl) (by intro y hy; simp only [List.mem_cons, List.not_mem_nil, or_false] at hy; subst hy; rfl) (by unfold maxLen; omega) (by omega) HJ1.out.base ?_)
      intro vb w3 ho3 hg3 hv3
      have HJ2 : Hid (Jn W1.heap.size wo w (wordF 4 ++ [40] ++ joinF [44, 32] (PS.take 0)) vb w3) := Lib.hid (by rw [List.take_zero, joinF, List.append_nil]; exact HJ1.out.app (p := [40]) ho3 hg3 (hv3.imp (fun h => h) (fun h => by rw [h]; simp)))
      clear ho3 hg3 hv3 HJ0 HJ1 q9 hi1 hi2 hi3 hi4
      have hpm : PS.length ≤ 9223372036854775807 := by omega
      go_wp2_with fail
      go_loopw [3, 7] (fun v i wz => ∃ j : Nat, j ≤ PS.length ∧ i = .int .i64 j ∧ Hid (Jn W1.heap.size wo w (wordF 4 ++ [40] ++ joinF [44, 32] (PS.take j)) v wz)) (fun _ i _ => PS.length - (intOf i).toNat)
      case atStart => exact ⟨0, by omega, rfl, HJ2⟩
      case round =>
        clear HJ2
        obtain ⟨j, hj, rfl, HN⟩ := hrel
        obtain ⟨ab3, cb3, hab3⟩ := HN.out.own.slice
        subst hab3
        obtain ⟨hi1, hi2, hi3, hi4⟩ := HI.out
        by_cases hjl : j < PS.length
        · have hjl2 : (j : Int) < (PS.length : Int) := by omega
          obtain ⟨g4, x4, B4, m4, hA4, _, hc4, hr4⟩ := parts_at HP.out.1 HN.out hjl
          subst hA4
          have HJT := Lib.hid (join_take hjl)
          have hle := join_le PS (j + 1)
          generalize hpj : PS[j] = pj at *
          have HPJ := Lib.hid hpj
          clear hpj
          by_cases h0 : j = 0
          · have d0 : decide (0 < j) = false := decide_eq_false (by omega)
            have HE : Hid (wordF 4 ++ [40] ++ joinF [44, 32] (PS.take (j + 1)) = (wordF 4 ++ [40] ++ joinF [44, 32] (PS.take j)) ++ pj) := Lib.hid (by rw [HJT.out, if_pos h0, h0]; simp [joinF])
            have hlx : (wordF 4 ++ [40] ++ joinF [44, 32] (PS.take j)).length + pj.length + 100 ≤ 140737488355328 := by
              have h2 := congrArg List.length HE.out
              rw [List.length_append, List.length_append, List.length_append (bs := pj), show ([40] : List UInt8).length = 1 from rfl] at h2
              omega
            clear HJT h0 hle
            generalize wordF 4 ++ [40] ++ joinF [44, 32] (PS.take j) = LJ at *
            go_wp2_with (at_builtin; refine wpList_appendX _ rfl (.tmp 133) (.tmp 137) 43 rfl w.heap.size 5 i0 (.int .u8 0) 1 1 Tryd.underlying43 hi1 hi2 hi3 hi4 rfl (by decide) _ _ _ rfl HN.out.own _ x4 pj.length m4 _ rfl hr4 cells_one (by unfold maxLen; omega) (by omega) HN.out.base ?_)
            intro v5 w5 ho5 hg5 hv5
            have HN5 : Hid (Jn W1.heap.size wo w (wordF 4 ++ [40] ++ joinF [44, 32] (PS.take (j + 1))) v5 w5) := Lib.hid (by rw [HE.out]; exact HN.out.app ho5 hg5 hv5)
            clear ho5 hg5 hv5 hc4 hr4 hi1 hi2 hi3 hi4
            go_wp2_with fail
            go_roundw
            case rel => exact ⟨j + 1, by omega, by go_num, HN5⟩
            case measure => simp [intOf]; omega
          · have d0 : decide (0 < j) = true := decide_eq_true (by omega)
            have HE : Hid (wordF 4 ++ [40] ++ joinF [44, 32] (PS.take (j + 1)) = ((wordF 4 ++ [40] ++ joinF [44, 32] (PS.take j)) ++ [44, 32]) ++ pj) := Lib.hid (by rw [HJT.out, if_neg h0]; simp)
            have hlx : (wordF 4 ++ [40] ++ joinF [44, 32] (PS.take j)).length + 2 + pj.length + 100 ≤ 140737488355328 := by
              have h2 := congrArg List.length HE.out
              rw [List.length_append, List.length_append, List.length_append (bs := pj), List.length_append (bs := [44, 32]), show ([40] : List UInt8).length = 1 from rfl, show ([44, 32] : List UInt8).length = 2 from rfl] at h2
              omega
            clear HJT h0 hle
            generalize wordF 4 ++ [40] ++ joinF [44, 32] (PS.take j) = LJ at *
            have HNa := Lib.hid (HN.out.alloc (.cells #[.int .u8 44, .int .u8 32] 5))
            clear hc4 hr4
            go_wp2_with (at_builtin; refine wpList_appendX _ rfl (.tmp 130) (.tmp 131) 43 rfl w.heap.size 5 i0 (.int .u8 0) 1 1 Tryd.underlying43 hi1 hi2 hi3 hi4 rfl (by decide) _ _ _ rfl HNa.out.own _ _ 2 2 [.int .u8 44, .int .u8 32] rfl (reads_new wr 5 [.int .u8 44, .int .u8 32] 2 rfl) (by intro y hy; simp only [List.mem_cons, List.not_mem_nil, or_false] at hy; rcases hy with rfl | rfl <;> rfl) (by unfold maxLen; omega) (by omega) HNa.out.base ?_)
            intro v4' w4 ho4 hg4 hv4
            have HN4 : Hid (Jn W1.heap.size wo w (LJ ++ [44, 32]) v4' w4) := Lib.hid (HNa.out.app (p := [44, 32]) ho4 hg4 (hv4.imp (fun h => h) (fun h => by rw [h]; simp)))
            clear ho4 hg4 hv4 HNa
            obtain ⟨ab4, cb4, hab4⟩ := HN4.out.own.slice
            subst hab4
            obtain ⟨g5, x5, B5, m5, hA5, _, hc5, hr5⟩ := parts_at HP.out.1 HN4.out hjl
            injection hA5 with hA5
            injection hA5 with hA5
            subst hA5
            rw [HPJ.out] at hc5 hr5
            have hlx2 : (LJ ++ [44, 32]).length + pj.length + 100 ≤ 140737488355328 := by rw [List.length_append, show ([44, 32] : List UInt8).length = 2 from rfl]; omega
            generalize LJ ++ [44, 32] = LJ2 at *
            go_wp2_with (at_builtin; refine wpList_appendX _ rfl (.tmp 133) (.tmp 137) 43 rfl w.heap.size 5 i0 (.int .u8 0) 1 1 Tryd.underlying43 hi1 hi2 hi3 hi4 rfl (by decide) _ _ _ rfl HN4.out.own _ x5 pj.length m5 _ rfl hr5 cells_one (by unfold maxLen; omega) (by omega) HN4.out.base ?_)
            intro v5 w5 ho5 hg5 hv5
            have HN5 : Hid (Jn W1.heap.size wo w (wordF 4 ++ [40] ++ joinF [44, 32] (PS.take (j + 1))) v5 w5) := Lib.hid (by rw [HE.out]; exact HN4.out.app ho5 hg5 hv5)
            clear ho5 hg5 hv5 hc5 hr5 hi1 hi2 hi3 hi4
            go_wp2_with fail
            go_roundw
            case rel => exact ⟨j + 1, by omega, by go_num, HN5⟩
            case measure => simp [intOf]; omega
        · obtain rfl : j = PS.length := by omega
          have hle : (wordF 4 ++ [40] ++ joinF [44, 32] (PS.take PS.length)).length + 100 ≤ 140737488355328 := by
            rw [List.take_length, List.length_append, List.length_append, show ([40] : List UInt8).length = 1 from rfl]
            omega
          have HE : Hid (writeF numT (.mk 4 oc f t u lo hi bo op ks) = (wordF 4 ++ [40] ++ joinF [44, 32] (PS.take PS.length)) ++ [41]) := Lib.hid (by rw [HWF.out, List.take_length]; simp)
          have HNa := Lib.hid (HN.out.alloc (.cells #[.int .u8 41] 5))
          generalize wordF 4 ++ [40] ++ joinF [44, 32] (PS.take PS.length) = LJ at *
          go_wp2_with (at_builtin; refine wpList_appendX _ rfl (.tmp 139) (.tmp 140) 43 rfl w.heap.size 5 i0 (.int .u8 0) 1 1 Tryd.underlying43 hi1 hi2 hi3 hi4 rfl (by decide) _ _ _ rfl HNa.out.own _ _ 1 1 [.int .u8 41] rfl (reads_new wr 5 [.int .u8 41] 1 rfl) (by intro y hy; simp only [List.mem_cons, List.not_mem_nil, or_false] at hy; subst hy; rfl) (by unfold maxLen; omega) (by omega) HNa.out.base ?_)
          intro v5 w5 ho5 hg5 hv5
          have HN5 : Hid (Jn W1.heap.size wo w (LJ ++ [41]) v5 w5) := Lib.hid (HNa.out.app (p := [41]) ho5 hg5 (hv5.imp (fun h => h) (fun h => by rw [h]; simp)))
          clear ho5 hg5 hv5 hi1 hi2 hi3 hi4 HNa
          go_wp2_with fail
          go_ret
          exact ⟨_, rfl, by rw [HE.out]; exact HN5.out.own, HN5.out.below⟩
set_option maxRecDepth 100000 in
set_option maxHeartbeats 16000000 in
theorem rwrite_5 (h : RAsk 5 oc f t u lo hi bo op ks L Hh Kd ck w) :
    Calls Tryd.prog 28 #[.agg #[.int .i64 5, .int .i64 oc, .string f, .string t, .string u, .slice L lo.length cl, .slice Hh hi.length ch, .int .i64 bo, .int .i64 op, .slice Kd ks.length ck]] w (RowBX (writeF numT (.mk 5 oc f t u lo hi bo op ks)) w) := by
  have HA := Lib.hid h
  obtain ⟨i0, hi1, hi2, hi3, hi4⟩ := info_parts infoU8
  obtain ⟨j0, hj1, hj2, hj3, hj4⟩ := info_parts infoS8
  have HI := Lib.hid (And.intro hi1 (And.intro hi2 (And.intro hi3 hi4)))
  have HJ := Lib.hid (And.intro hj1 (And.intro hj2 (And.intro hj3 hj4)))
  clear hi1 hi2 hi3 hi4 hj1 hj2 hj3 hj4
  have HOK : Hid (f.size ≤ 140737488351232 ∧ t.size ≤ 140737488351232 ∧ u.size ≤ 140737488351232 ∧ (lo.length * 8 ≤ 140737488351232 ∧ ∀ z ∈ lo, I64 z) ∧ (hi.length * 8 ≤ 140737488351232 ∧ ∀ z ∈ hi, I64 z) ∧ I64 bo ∧ ks.length * 152 ≤ 140737488351232) := Lib.hid (by
    cases h.ok with
    | mk _ _ a1 a2 a3 a4 a5 a6 _ a7 _ => exact ⟨a1, a2, a3, a4, a5, a6, a7⟩)
  have hW : writeF numT (.mk 5 oc f t u lo hi bo op ks) = wordF 5 ++ 40 :: (joinF [44, 32] ([f.data.toList, quoteF t] ++ writeL numT ks) ++ [41]) := by
    rw [writeF, if_neg (by decide)]; rfl
  have HWF := Lib.hid hW
  have HLEN : Hid ((wordF 5 ++ [40]).length + (joinF [44, 32] ([f.data.toList, quoteF t] ++ writeL numT ks)).length + 401 ≤ maxW) := Lib.hid (by
    have := h.len
    rw [hW] at this
    simp only [List.length_append, List.length_cons, List.length_nil] at *
    omega)
  clear hW
  clear h
  go_enter Tryd.func28, Tryd.ntmps28
  go_upto_region 1 with fail
  have HQ0 := Lib.hid (Blk.new w 25 #[.int .i64 5, .int .i64 oc, .string f, .string t, .string u, .slice L lo.length cl, .slice Hh hi.length ch, .int .i64 bo, .int .i64 op, .slice Kd ks.length ck])
  have HW0 := Lib.hid ((Below.refl _ w).alloc (Nat.le_refl _) (.cells #[.int .i64 5, .int .i64 oc, .string f, .string t, .string u, .slice L lo.length cl, .slice Hh hi.length ch, .int .i64 bo, .int .i64 op, .slice Kd ks.length ck] 25))
  have hz0 : (w.alloc (.cells #[.int .i64 5, .int .i64 oc, .string f, .string t, .string u, .slice L lo.length cl, .slice Hh hi.length ch, .int .i64 bo, .int .i64 op, .slice Kd ks.length ck] 25)).heap.size = w.heap.size + 1 := by simp
  generalize (w.alloc (.cells #[.int .i64 5, .int .i64 oc, .string f, .string t, .string u, .slice L lo.length cl, .slice Hh hi.length ch, .int .i64 bo, .int .i64 op, .slice Kd ks.length ck] 25)) = W0 at *
  refine wp_region_held_drew (S := fun V => Below W0.heap.size W0 V) (by kernel_rfl) (Below.refl _ W0).drew (fun hSd0 => ?_)
  refine' wpAnyH_take (i := 1) (v := _) (by simp only [List.getElem?_toArray, List.getElem?_cons_succ, List.getElem?_cons_zero]; rfl) (by kernel_rfl) (by kernel_rfl) (by kernel_rfl) (by exact fun _ _ _ h => h) (Or.inl ⟨by rfl, ?hyd1⟩) hSd0 ?restd1
  case hyd1 => intro V hSw; clear hSw; go_simp; try with_reducible rfl
  try simp only [Act.put, List.setIfInBounds_toArray, List.set_cons_zero, List.set_cons_succ]
  refine' wpAnyH_take (i := 2) (v := _) (by simp only [List.getElem?_toArray, List.getElem?_cons_succ, List.getElem?_cons_zero]; rfl) (by kernel_rfl) (by kernel_rfl) (by kernel_rfl) (by exact fun _ _ _ h => h) (Or.inl ⟨by rfl, ?hyd2⟩) hSd0 ?restd2
  case hyd2 => intro V hSw; have fq := (HQ0.out.below hSw HQ0.out.lt).cell 0; clear hSw; go_simp; try with_reducible rfl
  try simp only [Act.put, List.setIfInBounds_toArray, List.set_cons_zero, List.set_cons_succ]
  refine wpAnyH_ready (rs := [0]) (by kernel_rfl) (by simp) ?_
  refine' AllReadyH.cons (by simp only [List.getElem?_toArray, List.getElem?_cons_zero]; rfl) (fun KC hK => ?_) AllReadyH.nil
  go_simp
  refine (rwords_any _).mono ?_
  rintro e V1 ⟨rfl, hb, hc⟩
  have hc : V1.cell? ⟨w.heap.size + 1, 5, none⟩ = some (.string (str (wordF 5))) := by rw [← hz0]; exact hc 5 (by decide) (by decide)
  have hs1 : Below W0.heap.size W0 V1 := hSd0.trans (hb.mono hSd0.size)
  clear hb
  go_simp
  refine hK.out _ _ hs1 (fun hSd1 => ?_)
  clear hK hs1
  try simp only [Act.put, List.setIfInBounds_toArray, List.set_cons_zero, List.set_cons_succ]
  refine' wpAnyH_take (i := 3) (v := _) (by simp only [List.getElem?_toArray, List.getElem?_cons_succ, List.getElem?_cons_zero]; rfl) (by kernel_rfl) (by kernel_rfl) (by kernel_rfl) (by exact fun _ _ _ h => h) (Or.inl ⟨by rfl, ?hyd3⟩) hSd1 ?restd3
  case hyd3 => intro V hSw; clear hSw; go_simp; try with_reducible rfl
  try simp only [Act.put, List.setIfInBounds_toArray, List.set_cons_zero, List.set_cons_succ]
  refine wpAnyH_ready (rs := [4]) (by kernel_rfl) (by simp) ?_
  refine' AllReadyH.cons (by simp only [List.getElem?_toArray, List.getElem?_cons_succ, List.getElem?_cons_zero]; rfl) (fun KC hK => ?_) AllReadyH.nil
  go_simp
  refine hK.out _ _ hSd1 (fun hSd2 => ?_)
  clear hK
  try simp only [Act.put, List.setIfInBounds_toArray, List.set_cons_zero, List.set_cons_succ]
  refine wpAnyH_ready (rs := [5]) (by kernel_rfl) (by simp) ?_
  refine' AllReadyH.cons (by simp only [List.getElem?_toArray, List.getElem?_cons_succ, List.getElem?_cons_zero]; rfl) (fun KC hK => ?_) AllReadyH.nil
  have hcv := Lib.run_convert_string_bytes (P := Tryd.prog) V1 9 43 5 (str (wordF 5)) (u := .string) Tryd.underlying9 Tryd.underlying43 Tryd.underlying5
  have hox := ownX_bytes V1 w.heap.size 5 (str (wordF 5)) (by have := hSd1.size; omega) (by decide)
  have hbb := below_bytes V1 5 (str (wordF 5))
  generalize Lib.bytesWorld V1 5 (str (wordF 5)) = W1 at *
  go_simp
  have hs1 : Below W0.heap.size W0 W1 := hSd1.trans (hbb.mono hSd1.size)
  refine hK.out _ _ hs1 (fun hSd3 => ?_)
  clear hK
  try simp only [Act.put, List.setIfInBounds_toArray, List.set_cons_zero, List.set_cons_succ]
  refine' wpAnyH_take (i := 6) (v := _) (by simp only [List.getElem?_toArray, List.getElem?_cons_succ, List.getElem?_cons_zero]; rfl) (by kernel_rfl) (by kernel_rfl) (by kernel_rfl) (by exact fun _ _ _ h => h) (Or.inl ⟨by rfl, ?hyd6⟩) hSd3 ?restd6
  case hyd6 => intro V hSw; clear hSw; go_simp; try with_reducible rfl
  try simp only [Act.put, List.setIfInBounds_toArray, List.set_cons_zero, List.set_cons_succ]
  refine wpAnyH_done (by kernel_rfl) ?_ _
  obtain ⟨ab, cb, hab⟩ := hox.slice
  have HB : Hid (OwnX W1 w.heap.size 5 1 (.slice ab (wordF 5).length cb) (wordF 5).length (Lib.byteCells (wordF 5))) := Lib.hid (by rw [hab] at hox; exact hox)
  rw [hab]
  have HBl : Hid (∀ g, (Value.slice ab (wordF 5).length cb).ownBlock = some g → g < W1.heap.size) := Lib.hid (fun g hg => (HB.out.lt g hg).2)
  clear hSd0 hSd1 hSd2 hSd3 hcv hab hox hbb hc
  have HQ1 := Lib.hid (HQ0.out.below hs1 HQ0.out.lt)
  have HW1 := Lib.hid (HW0.out.trans (hs1.mono HW0.out.size))
  have hz1 : w.heap.size + 1 ≤ W1.heap.size := HQ1.out.lt
  clear hs1 hz0
  obtain ⟨c0, c1, c2, c3, c4, c5, c6, c7, c8, c9⟩ := tenB HQ1.out
  have HLq1 : Hid ((quoteF t).length ≤ 140737488355000) := Lib.hid (by have := part_le (ps := [f.data.toList]) (x := quoteF t) (rest := [] ++ writeL numT ks) (all := [f.data.toList, quoteF t] ++ writeL numT ks) rfl; have := HLEN.out; unfold maxW at this; omega)
  go_upto_region 9 with fail
  clear c0 c1 c2 c3 c4 c5 c6 c7 c8 c9
  refine wp_mono (Q := fun ex a' V => ex = .normal ∧ ∃ x0 x1  Ab v', Parts W1.heap.size V v' [f.data.toList, quoteF t] ∧ Below W1.heap.size W1 V ∧ a' = { tmps := #[Value.agg #[Value.int IntKind.i64 5, Value.int IntKind.i64 oc, Value.string f, Value.string t, Value.string u, Value.slice L lo.length cl, Value.slice Hh hi.length ch, Value.int IntKind.i64 bo, Value.int IntKind.i64 op, Value.slice Kd ks.length ck], Value.pointer (some { block := w.heap.size, off := 0 }), Value.slice none 0 0, Value.slice ab (str (wordF 5)).size cb, v', undef, undef, undef, Value.slice (some { block := w.heap.size + 1, off := 0 }) 11 11, Value.pointer (some { block := w.heap.size, off := 0 }), Value.int IntKind.i64 5, Value.pointer (some { block := w.heap.size + 1, off := 5 }), Value.string (str (wordF 5)), Value.slice ab (str (wordF 5)).size cb, Value.pointer (some { block := w.heap.size, off := 0 }), Value.int IntKind.i64 5, Value.bool false, undef, Value.pointer (some { block := w.heap.size, off := 0 }), Value.int IntKind.i64 5, Value.bool true, Value.bool false, Value.bool false, Value.bool true, Value.slice none 0 0, Value.pointer (some { block := w.heap.size, off := 2 }), Value.string f, x0, Value.pointer (some { block := w.heap.size, off := 3 }), Value.string t, x1, Value.slice Ab 2 2, v', undef, undef, undef, undef, undef, undef, undef, undef, undef, undef, undef, undef, undef, undef, undef, undef, undef, undef, undef, undef, undef, undef, undef, undef, undef, undef, undef, undef, undef, undef, undef, undef, undef, undef, undef, undef, undef, undef, undef, undef, undef, undef, undef, undef, undef, undef, undef, undef, undef, undef, undef, undef, undef, undef, undef, undef, undef, undef, undef, undef, undef, undef, undef, undef, undef, undef, undef, undef, undef, undef, undef, undef, undef, undef, undef, undef, undef, undef, undef, undef, undef, undef, undef, undef, undef, undef, undef, undef, undef, undef, undef, undef, undef, undef, undef, undef, undef, undef, undef, undef, undef, undef, undef, undef, undef, undef, undef, undef, undef], defers := [] }) ?region ?rest
  case region =>
    obtain ⟨hj1, hj2, hj3, hj4⟩ := HJ.out
    refine wp_region_held_drew (S := fun V => Below W1.heap.size W1 V) (by kernel_rfl) (Below.refl _ W1).drew (fun hS0 => ?_)
    generalize W1.drew = V0 at hS0 ⊢
    refine' wpAnyH_take (i := 0) (v := _) (by simp only [List.getElem?_toArray, List.getElem?_cons_zero]; rfl) (by kernel_rfl) (by kernel_rfl) (by kernel_rfl) (by rintro _ _ _ ⟨h, _⟩; cases h) (Or.inl ⟨by rfl, ?hm0_1⟩) hS0 ?rm0_1
    case hm0_1 => intro V hSw; clear hSw; go_simp; try with_reducible rfl
    try simp only [Act.put, List.setIfInBounds_toArray, List.set_cons_zero, List.set_cons_succ]
    refine' wpAnyH_take (i := 1) (v := _) (by simp only [List.getElem?_toArray, List.getElem?_cons_succ, List.getElem?_cons_zero]; rfl) (by kernel_rfl) (by kernel_rfl) (by kernel_rfl) (by rintro _ _ _ ⟨h, _⟩; cases h) (Or.inl ⟨by rfl, ?hm1_2⟩) hS0 ?rm1_2
    case hm1_2 => intro V hSw; clear hSw; go_simp; try with_reducible rfl
    try simp only [Act.put, List.setIfInBounds_toArray, List.set_cons_zero, List.set_cons_succ]
    refine' wpAnyH_take (i := 2) (v := _) (by simp only [List.getElem?_toArray, List.getElem?_cons_succ, List.getElem?_cons_zero]; rfl) (by kernel_rfl) (by kernel_rfl) (by kernel_rfl) (by rintro _ _ _ ⟨h, _⟩; cases h) (Or.inl ⟨by rfl, ?hm2_3⟩) hS0 ?rm2_3
    case hm2_3 => intro V hSw; have fq := (HQ1.out.below hSw HQ1.out.lt).cell 2; clear hSw; go_simp; try with_reducible rfl
    try simp only [Act.put, List.setIfInBounds_toArray, List.set_cons_zero, List.set_cons_succ]
    refine' wpAnyH_take (i := 4) (v := _) (by simp only [List.getElem?_toArray, List.getElem?_cons_succ, List.getElem?_cons_zero]; rfl) (by kernel_rfl) (by kernel_rfl) (by kernel_rfl) (by rintro _ _ _ ⟨h, _⟩; cases h) (Or.inl ⟨by rfl, ?hm4_4⟩) hS0 ?rm4_4
    case hm4_4 => intro V hSw; clear hSw; go_simp; try with_reducible rfl
    try simp only [Act.put, List.setIfInBounds_toArray, List.set_cons_zero, List.set_cons_succ]
    refine' wpAnyH_take (i := 5) (v := _) (by simp only [List.getElem?_toArray, List.getElem?_cons_succ, List.getElem?_cons_zero]; rfl) (by kernel_rfl) (by kernel_rfl) (by kernel_rfl) (by rintro _ _ _ ⟨h, _⟩; cases h) (Or.inl ⟨by rfl, ?hm5_5⟩) hS0 ?rm5_5
    case hm5_5 => intro V hSw; have fq := (HQ1.out.below hSw HQ1.out.lt).cell 3; clear hSw; go_simp; try with_reducible rfl
    try simp only [Act.put, List.setIfInBounds_toArray, List.set_cons_zero, List.set_cons_succ]
    refine wpAnyH_ready (rs := [3, 6]) (by kernel_rfl) (by simp) ?_
    refine' AllReadyH.cons (by simp only [List.getElem?_toArray, List.getElem?_cons_succ, List.getElem?_cons_zero]; rfl) (fun K hK => ?_) ?_
    · skip
      have hcv := Lib.run_convert_string_bytes (P := Tryd.prog) V0 9 43 5 f (u := .string) Tryd.underlying9 Tryd.underlying43 Tryd.underlying5
      have hox := ownX_bytes V0 W1.heap.size 5 f hS0.size (by have := HOK.out.1; unfold maxLen; omega)
      have hbb := below_bytes V0 5 f
      generalize Lib.bytesWorld V0 5 f = V1 at *
      generalize hxv : Value.slice (some ⟨V0.heap.size, 0, none⟩) f.size (grownCap V0 f.size 0 5) = x0 at *
      clear hxv
      go_simp
      have hE0 : Elt V1 W1.heap.size V1.heap.size x0 (f.data.toList) := Elt.ofX hox (Nat.le_refl _)
      have hS1 : Below W1.heap.size W1 V1 := hS0.trans (hbb.mono hS0.size)
      refine hK.out _ _ hS1 (fun hT => ?_)
      clear hK hcv hox hT
      try simp only [Act.put, List.setIfInBounds_toArray, List.set_cons_zero, List.set_cons_succ]
      clear hbb
      refine wpAnyH_ready (rs := [6]) (by kernel_rfl) (by simp) ?_
      refine' AllReadyH.cons (by simp only [List.getElem?_toArray, List.getElem?_cons_succ, List.getElem?_cons_zero]; rfl) (fun K hK => ?_) ?_
      · skip
        go_simp
        refine (rquoted_any t _ HLq1.out).mono ?_
        rintro e V2 ⟨x1, rfl, ho, hb⟩
        have hE1 : Elt V2 W1.heap.size V2.heap.size x1 (quoteF t) := Elt.ofX (OwnX.of ho) hS1.size
        have hS2 : Below W1.heap.size W1 V2 := hS1.trans (hb.mono hS1.size)
        replace hE0 := hE0.below hb (Nat.le_refl _)
        clear ho hb
        go_simp
        refine hK.out _ _ hS2 (fun hT => ?_)
        clear hK hT
        try simp only [Act.put, List.setIfInBounds_toArray, List.set_cons_zero, List.set_cons_succ]
        obtain ⟨A0, C0, hx⟩ := hE0.slice
        replace hx : x0 = .slice A0 f.size C0 := hx
        subst hx
        obtain ⟨A1, C1, hx⟩ := hE1.slice
        replace hx : x1 = .slice A1 (quoteF t).length C1 := hx
        subst hx
        refine wpAnyH_ready (rs := [7]) (by kernel_rfl) (by simp) ?_
        refine' AllReadyH.cons (by simp only [List.getElem?_toArray, List.getElem?_cons_succ, List.getElem?_cons_zero]; rfl) (fun K hK => ?_) AllReadyH.nil
        have hRn := reads_new V2 43 [.slice A0 f.size C0, .slice A1 (quoteF t).length C1] 2 rfl
        go_simp
        replace hE0 := hE0.below ((Below.refl _ V2).alloc (Nat.le_refl _) (.cells #[.slice A0 f.size C0, .slice A1 (quoteF t).length C1] 43)) (Nat.le_refl _)
        replace hE1 := hE1.below ((Below.refl _ V2).alloc (Nat.le_refl _) (.cells #[.slice A0 f.size C0, .slice A1 (quoteF t).length C1] 43)) (Nat.le_refl _)
        have hS3 := Below.alloc hS2 hS2.size (.cells #[.slice A0 f.size C0, .slice A1 (quoteF t).length C1] 43)
        generalize hAb : (some ⟨V2.heap.size, 0, none⟩ : Option Addr) = Ab at *
        clear hAb
        generalize V2.alloc (.cells #[.slice A0 f.size C0, .slice A1 (quoteF t).length C1] 43) = V3 at *
        refine hK.out _ _ hS3 (fun hT => ?_)
        clear hK
        try simp only [Act.put, List.setIfInBounds_toArray, List.set_cons_zero, List.set_cons_succ]
        refine wpAnyH_ready (rs := [8]) (by kernel_rfl) (by simp) ?_
        refine' AllReadyH.cons (by simp only [List.getElem?_toArray, List.getElem?_cons_succ, List.getElem?_cons_zero]; rfl) (fun K hK => ?_) AllReadyH.nil
        refine step_append_any _ rfl (.tmp 24) (.tmp 31) 74 rfl W1.heap.size 43 j0 (.slice none 0 0) 1 24 Tryd.underlying74 hj1 hj2 hj3 hj4 rfl (by decide) (.slice none 0 0) 0 [] rfl (World.ownsRow_nil _ _ _ _) _ Ab 2 2 [.slice A0 f.size C0, .slice A1 (quoteF t).length C1] rfl hRn (by intro y hy; simp only [List.mem_cons, List.not_mem_nil, or_false] at hy; rcases hy with rfl | rfl; exact hE0.one; exact hE1.one) (by decide) (by decide) hS3.size ?_
        intro v' w' ho hg _
        have hP : Parts W1.heap.size w' v' [f.data.toList, quoteF t] := parts_more (ps := []) (ps' := [f.data.toList, quoteF t]) (World.ownsRow_nil _ _ _ _) rfl (parts_one (xs := [.slice A0 f.size C0]) (ps := [f.data.toList]) (parts_one (xs := []) (ps := []) (fun i x p h => by simp at h) rfl hE0) rfl hE1) ho hg
        have hSe : Below W1.heap.size W1 w' := hS3.grown hg hS3.size (fun r e => by cases e)
        refine hK.out _ _ hSe (fun hT => ?_)
        clear hK
        try simp only [Act.put, List.setIfInBounds_toArray, List.set_cons_zero, List.set_cons_succ]
        refine' wpAnyH_take (i := 9) (v := _) (by simp only [List.getElem?_toArray, List.getElem?_cons_succ, List.getElem?_cons_zero]; rfl) (by kernel_rfl) (by kernel_rfl) (by kernel_rfl) (by rintro _ _ _ ⟨h, _⟩; cases h) (Or.inl ⟨by rfl, ?hm9_6⟩) hSe ?rm9_6
        case hm9_6 => intro V hSw; clear hSw; go_simp; try with_reducible rfl
        try simp only [Act.put, List.setIfInBounds_toArray, List.set_cons_zero, List.set_cons_succ]
        refine wpAnyH_done (by kernel_rfl) ?_ _
        exact ⟨rfl, .slice A0 f.size C0, .slice A1 (quoteF t).length C1, Ab, v', hP, hSe, rfl⟩
      exact AllReadyH.nil
    refine' AllReadyH.cons (by simp only [List.getElem?_toArray, List.getElem?_cons_succ, List.getElem?_cons_zero]; rfl) (fun K hK => ?_) ?_
    · skip
      go_simp
      refine (rquoted_any t _ HLq1.out).mono ?_
      rintro e V1 ⟨x1, rfl, ho, hb⟩
      have hE1 : Elt V1 W1.heap.size V1.heap.size x1 (quoteF t) := Elt.ofX (OwnX.of ho) hS0.size
      have hS1 : Below W1.heap.size W1 V1 := hS0.trans (hb.mono hS0.size)
      clear ho hb
      go_simp
      refine hK.out _ _ hS1 (fun hT => ?_)
      clear hK hT
      try simp only [Act.put, List.setIfInBounds_toArray, List.set_cons_zero, List.set_cons_succ]
      refine wpAnyH_ready (rs := [3]) (by kernel_rfl) (by simp) ?_
      refine' AllReadyH.cons (by simp only [List.getElem?_toArray, List.getElem?_cons_succ, List.getElem?_cons_zero]; rfl) (fun K hK => ?_) ?_
      · skip
        have hcv := Lib.run_convert_string_bytes (P := Tryd.prog) V1 9 43 5 f (u := .string) Tryd.underlying9 Tryd.underlying43 Tryd.underlying5
        have hox := ownX_bytes V1 W1.heap.size 5 f hS1.size (by have := HOK.out.1; unfold maxLen; omega)
        have hbb := below_bytes V1 5 f
        generalize Lib.bytesWorld V1 5 f = V2 at *
        generalize hxv : Value.slice (some ⟨V1.heap.size, 0, none⟩) f.size (grownCap V1 f.size 0 5) = x0 at *
        clear hxv
        go_simp
        replace hE1 := hE1.below hbb (Nat.le_refl _)
        have hE0 : Elt V2 W1.heap.size V2.heap.size x0 (f.data.toList) := Elt.ofX hox (Nat.le_refl _)
        have hS2 : Below W1.heap.size W1 V2 := hS1.trans (hbb.mono hS1.size)
        refine hK.out _ _ hS2 (fun hT => ?_)
        clear hK hcv hox hT
        try simp only [Act.put, List.setIfInBounds_toArray, List.set_cons_zero, List.set_cons_succ]
        clear hbb
        obtain ⟨A0, C0, hx⟩ := hE0.slice
        replace hx : x0 = .slice A0 f.size C0 := hx
        subst hx
        obtain ⟨A1, C1, hx⟩ := hE1.slice
        replace hx : x1 = .slice A1 (quoteF t).length C1 := hx
        subst hx
        refine wpAnyH_ready (rs := [7]) (by kernel_rfl) (by simp) ?_
        refine' AllReadyH.cons (by simp only [List.getElem?_toArray, List.getElem?_cons_succ, List.getElem?_cons_zero]; rfl) (fun K hK => ?_) AllReadyH.nil
        have hRn := reads_new V2 43 [.slice A0 f.size C0, .slice A1 (quoteF t).length C1] 2 rfl
        go_simp
        replace hE1 := hE1.below ((Below.refl _ V2).alloc (Nat.le_refl _) (.cells #[.slice A0 f.size C0, .slice A1 (quoteF t).length C1] 43)) (Nat.le_refl _)
        replace hE0 := hE0.below ((Below.refl _ V2).alloc (Nat.le_refl _) (.cells #[.slice A0 f.size C0, .slice A1 (quoteF t).length C1] 43)) (Nat.le_refl _)
        have hS3 := Below.alloc hS2 hS2.size (.cells #[.slice A0 f.size C0, .slice A1 (quoteF t).length C1] 43)
        generalize hAb : (some ⟨V2.heap.size, 0, none⟩ : Option Addr) = Ab at *
        clear hAb
        generalize V2.alloc (.cells #[.slice A0 f.size C0, .slice A1 (quoteF t).length C1] 43) = V3 at *
        refine hK.out _ _ hS3 (fun hT => ?_)
        clear hK
        try simp only [Act.put, List.setIfInBounds_toArray, List.set_cons_zero, List.set_cons_succ]
        refine wpAnyH_ready (rs := [8]) (by kernel_rfl) (by simp) ?_
        refine' AllReadyH.cons (by simp only [List.getElem?_toArray, List.getElem?_cons_succ, List.getElem?_cons_zero]; rfl) (fun K hK => ?_) AllReadyH.nil
        refine step_append_any _ rfl (.tmp 24) (.tmp 31) 74 rfl W1.heap.size 43 j0 (.slice none 0 0) 1 24 Tryd.underlying74 hj1 hj2 hj3 hj4 rfl (by decide) (.slice none 0 0) 0 [] rfl (World.ownsRow_nil _ _ _ _) _ Ab 2 2 [.slice A0 f.size C0, .slice A1 (quoteF t).length C1] rfl hRn (by intro y hy; simp only [List.mem_cons, List.not_mem_nil, or_false] at hy; rcases hy with rfl | rfl; exact hE0.one; exact hE1.one) (by decide) (by decide) hS3.size ?_
        intro v' w' ho hg _
        have hP : Parts W1.heap.size w' v' [f.data.toList, quoteF t] := parts_more (ps := []) (ps' := [f.data.toList, quoteF t]) (World.ownsRow_nil _ _ _ _) rfl (parts_one (xs := [.slice A0 f.size C0]) (ps := [f.data.toList]) (parts_one (xs := []) (ps := []) (fun i x p h => by simp at h) rfl hE0) rfl hE1) ho hg
        have hSe : Below W1.heap.size W1 w' := hS3.grown hg hS3.size (fun r e => by cases e)
        refine hK.out _ _ hSe (fun hT => ?_)
        clear hK
        try simp only [Act.put, List.setIfInBounds_toArray, List.set_cons_zero, List.set_cons_succ]
        refine' wpAnyH_take (i := 9) (v := _) (by simp only [List.getElem?_toArray, List.getElem?_cons_succ, List.getElem?_cons_zero]; rfl) (by kernel_rfl) (by kernel_rfl) (by kernel_rfl) (by rintro _ _ _ ⟨h, _⟩; cases h) (Or.inl ⟨by rfl, ?hm9_7⟩) hSe ?rm9_7
        case hm9_7 => intro V hSw; clear hSw; go_simp; try with_reducible rfl
        try simp only [Act.put, List.setIfInBounds_toArray, List.set_cons_zero, List.set_cons_succ]
        refine wpAnyH_done (by kernel_rfl) ?_ _
        exact ⟨rfl, .slice A0 f.size C0, .slice A1 (quoteF t).length C1, Ab, v', hP, hSe, rfl⟩
      exact AllReadyH.nil
    exact AllReadyH.nil
  rintro ex a' W2 ⟨rfl, x0, x1, Ab, v4, hP, hb2, rfl⟩
  have HP2 := Lib.hid hP; have HB2 := Lib.hid hb2
  clear hP hb2
  obtain ⟨_, _, hke, hckA, hmkA, helK⟩ := at_kids HA.out.kids
  injection hke with hk1 _ hk3
  subst hk1 hk3
  have HKS := Lib.hid helK
  clear helK hckA
  have hks : ks.length * 152 ≤ 140737488351232 := HOK.out.2.2.2.2.2.2
  have H0 : Hid (Parts W1.heap.size W2 v4 ([f.data.toList, quoteF t] ++ (writeL numT ks).take 0) ∧ Below W1.heap.size W1 W2) := Lib.hid ⟨by simpa using HP2.out, HB2.out⟩
  clear HP2 HB2
  go_wp2_with fail
  go_loopw [4, 5] (fun v i wr => ∃ k : Nat, k ≤ ks.length ∧ i = .int .i64 k ∧ Hid (Parts W1.heap.size wr v ([f.data.toList, quoteF t] ++ (writeL numT ks).take k) ∧ Below W1.heap.size W1 wr)) (fun _ i _ => ks.length - (intOf i).toNat)
  case atStart => exact ⟨0, by omega, rfl, H0⟩
  case round =>
    skip
    clear H0
    obtain ⟨k, hk, rfl, HP⟩ := hrel
    have HQr := Lib.hid (HQ1.out.below HP.out.2 HQ1.out.lt)
    have HWr := Lib.hid (HW1.out.trans (HP.out.2.mono HW1.out.size))
    have hzr := HP.out.2.size
    have q9 : wr.cell? ⟨w.heap.size, 9, none⟩ = some (.slice Kd ks.length ck) := HQr.out.cell 9
    by_cases hlt : k < ks.length
    · have hlt2 : (k : Int) < (ks.length : Int) := by omega
      obtain ⟨ad, us, hKe, hba, au, lu, cu⟩ := HKS.out k hlt
      subst hKe
      replace cu := cu.keep (w' := wr) (fun p hp => HWr.out.cell (by rw [hp, block_of_add]; exact hba))
      have HD := Lib.hid (fun (W : World) (hW : Below w.heap.size w W) => HA.out.down ks[k] (List.getElem_mem _) us W (atL_ltw au hW))
      have hocc := HA.out.occ ks[k] (List.getElem_mem _)
      have HX := Lib.hid (kids_takeR hlt)
      have HLK : Hid ((markF (QryP.oc ks[k]) ++ writeF numT ks[k]).length + 400 ≤ maxW) := Lib.hid (by have := kid_part (pc := [f.data.toList, quoteF t]) hlt; have := HLEN.out; omega)
      have HPL : Hid (([f.data.toList, quoteF t] ++ (writeL numT ks).take k).length ≤ ks.length + 3) := Lib.hid (by rw [List.length_append, List.length_take, writeL_len]; simp only [List.length_cons, List.length_nil]; omega)
      have q0 : wr.cell? ⟨w.heap.size, 0, none⟩ = some (.int .i64 5) := HQr.out.cell 0
      generalize hq : ks[k] = q at *
      have HNX : Hid (∀ (W : World) (v : Value), Parts W1.heap.size W v (([f.data.toList, quoteF t] ++ (writeL numT ks).take k) ++ [markF (QryP.oc q) ++ writeF numT q]) → Parts W1.heap.size W v ([f.data.toList, quoteF t] ++ (writeL numT ks).take (k + 1))) := Lib.hid (fun W v h => by rw [HX.out, ← List.append_assoc]; exact h)
      clear HX
      generalize [f.data.toList, quoteF t] ++ (writeL numT ks).take k = PS at *
      obtain ⟨ao, ca, hao⟩ := HP.out.1.slice
      subst hao
      generalize hTX : writeF numT q = TX at *
      clear hTX
      obtain ⟨kd', oc', f', t', u', lo', hi', b', op', ks'⟩ := q
      obtain ⟨vl, vh, vk, rfl, hvl, hvh, hvk⟩ := at_cells au
      obtain ⟨B1, d1, rfl, _⟩ := at_ints hvl
      obtain ⟨B2, d2, rfl, _⟩ := at_ints hvh
      obtain ⟨B3, d3, rfl⟩ := at_sl hvk
      obtain ⟨a0, a1, a2, a3, a4, a5, a6, a7, a8, a9⟩ := ten cu
      have HCU := Lib.hid cu
      clear hq au hvl hvh hvk cu lu
      replace hocc : ((5 : Int) = 8 → 1 ≤ oc' ∧ oc' ≤ 4) ∧ ((5 : Int) ≠ 8 → oc' = 0) := hocc
      change Hid ((markF oc' ++ TX).length + 400 ≤ maxW) at HLK
      change Hid (∀ (W : World) (v : Value), Parts W1.heap.size W v (PS ++ [markF oc' ++ TX]) → Parts W1.heap.size W v ([f.data.toList, quoteF t] ++ (writeL numT ks).take (k + 1))) at HNX
      obtain ⟨hi1, hi2, hi3, hi4⟩ := HI.out
      obtain ⟨hj1, hj2, hj3, hj4⟩ := HJ.out
      obtain rfl : oc' = 0 := hocc.2 (by decide)
      clear hocc
      go_wp2_with fail
      refine (HD.out _ HWr.out).mono ?_
      rintro e w2 ⟨x, rfl, ho, hb⟩
      obtain ⟨A6, C6, hx⟩ := ho.slice
      subst hx
      have hrd := ho.reads
      have hB2 : Below wr.heap.size wr w2 := hb
      have h6 : OwnX w2 wr.heap.size 5 1 (.slice none 0 0) 0 (Lib.byteCells ([] : List UInt8)) := ⟨by simp [Lib.byteCells], .inl ⟨rfl, rfl⟩⟩
      clear ho hb a0 a1 a2 a3 a4 a5 a6 a7 a8 a9 q9 q0 
      have hlk : 0 + TX.length + 400 ≤ maxW := by have := HLK.out; first | (simpa [markF] using this) | (simp [markF] at this; omega)
      have hz2 := hB2.size
      go_wp2_with (at_builtin; refine wpList_appendX _ rfl (.tmp 107) (.tmp 113) 43 rfl wr.heap.size 5 i0 (.int .u8 0) 1 1 Tryd.underlying43 hi1 hi2 hi3 hi4 rfl (by decide) _ _ _ rfl h6 _ A6 TX.length C6 _ rfl hrd cells_one (by unfold maxLen; unfold maxW at hlk; omega) (by unfold maxW at hlk; omega) hz2 ?_)
      intro v7 w7 ho7 hg7 hv7
      have h7 : OwnX w7 wr.heap.size 5 1 v7 (([] : List UInt8) ++ TX).length (Lib.byteCells (([] : List UInt8) ++ TX)) := by
        have e : Lib.byteCells (([] : List UInt8) ++ TX) = Lib.byteCells ([] : List UInt8) ++ Lib.byteCells TX := by simp [Lib.byteCells]
        first | (rw [e, List.length_append]; exact ho7) | exact ho7
      have hB7 : Below wr.heap.size wr w7 := hB2.grown hg7 hz2 (fun r e => (h6.lt r e).1)
      have hE7 : Elt w7 W1.heap.size w7.heap.size v7 (([] : List UInt8) ++ TX) := Elt.ofX h7 hzr
      obtain ⟨A7, C7, hx⟩ := hE7.slice
      subst hx
      have hPz := (HP.out.1.below hB7).below ((Below.refl _ w7).alloc (Nat.le_refl _) (.cells #[.slice A7 (([] : List UInt8) ++ TX).length C7] 43))
      have hE8 := hE7.below ((Below.refl _ w7).alloc (Nat.le_refl _) (.cells #[.slice A7 (([] : List UInt8) ++ TX).length C7] 43)) (Nat.le_refl _)
      obtain ⟨xs, hox, hxl, hxe⟩ := hPz
      have hRn := reads_new w7 43 [.slice A7 (([] : List UInt8) ++ TX).length C7] 1 rfl
      have hB8 : Below W1.heap.size W1 (w7.alloc (.cells #[.slice A7 (([] : List UInt8) ++ TX).length C7] 43)) := (HP.out.2.trans (hB7.mono hzr)).alloc (Nat.le_trans hzr hB7.size) _
      have hpl := HPL.out
      clear ho7 hg7 hv7 h6 hrd hlk hE7 h7 hB2
      go_wp2_with (at_builtin; refine wpList_append_any _ rfl (.tmp 115) (.tmp 117) 74 rfl W1.heap.size 43 j0 (.slice none 0 0) 1 24 Tryd.underlying74 hj1 hj2 hj3 hj4 rfl (by decide) _ _ _ rfl hox _ _ 1 1 [.slice A7 (([] : List UInt8) ++ TX).length C7] rfl hRn (by intro y hy; simp only [List.mem_cons, List.not_mem_nil, or_false] at hy; subst hy; rfl) (by unfold maxLen; omega) (by omega) hB8.size ?_)
      intro v8 w8 ho8 hg8 _
      have HN : Hid (Parts W1.heap.size w8 v8 ([f.data.toList, quoteF t] ++ (writeL numT ks).take (k + 1)) ∧ Below W1.heap.size W1 w8) := Lib.hid ⟨HNX.out _ _ (parts_more (ps' := [([] : List UInt8) ++ TX]) hox rfl (parts_one hxe hxl hE8) ho8 hg8), hB8.grown hg8 hB8.size (fun r e => (hox.lt r e).1)⟩
      clear ho8 hg8 hox hxe hxl hE8 hRn hB8 hi1 hi2 hi3 hi4 hj1 hj2 hj3 hj4 hB7
      go_wp2_with fail
      go_roundw
      case rel => exact ⟨k + 1, by omega, by go_num, HN⟩
      case measure => simp [intOf]; omega
    · obtain rfl : k = ks.length := by omega
      obtain ⟨wo, hwo⟩ : ∃ wo : World, wo = wr := ⟨_, rfl⟩
      subst hwo
      have hall : (writeL numT ks).take ks.length = writeL numT ks := List.take_of_length_le (by rw [writeL_len]; exact Nat.le_refl _)
      rw [hall] at HP
      generalize hPS : [f.data.toList, quoteF t] ++ writeL numT ks = PS at *
      obtain ⟨ao, ca, hao⟩ := HP.out.1.slice
      subst hao
      have HPL : Hid (PS.length ≤ ks.length + 3) := Lib.hid (by rw [← hPS, List.length_append, writeL_len]; simp only [List.length_cons, List.length_nil]; omega)
      have HPS := Lib.hid hPS
      clear hall hPS HKS
      obtain ⟨hi1, hi2, hi3, hi4⟩ := HI.out
      have HJ0 : Hid (Jn W1.heap.size wo w (wordF 5) (.slice ab (wordF 5).length cb) wo) := Lib.hid ⟨HB.out.below HP.out.2 (Nat.le_refl _), fun g e => .inl (HBl.out g e), HWr.out, fun g _ _ => rfl, Nat.le_refl _, HWr.out.size⟩
      have HJ1 := Lib.hid (HJ0.out.alloc (.cells #[.int .u8 40] 5))
      have hpl := HPL.out
      have hlen0 := HLEN.out
      unfold maxW at hlen0
      rw [List.length_append, show ([40] : List UInt8).length = 1 from rfl] at hlen0
      go_wp2_with (at_builtin; refine wpList_appendX _ rfl (.tmp 119) (.tmp 120) 43 rfl w.heap.size 5 i0 (.int .u8 0) 1 1 Tryd.underlying43 hi1 hi2 hi3 hi4 rfl (by decide) _ _ _ rfl HJ1.out.own _ _ 1 1 [.int .u8 40] rfl (reads_new wo 5 [.int .u8 40] 1 rfl) (by intro y hy; simp only [List.mem_cons, List.not_mem_nil, or_false] at hy; subst hy; rfl) (by unfold maxLen; omega) (by omega) HJ1.out.base ?_)
      intro vb w3 ho3 hg3 hv3
      have HJ2 : Hid (Jn W1.heap.size wo w (wordF 5 ++ [40] ++ joinF [44, 32] (PS.take 0)) vb w3) := Lib.hid (by rw [List.take_zero, joinF, List.append_nil]; exact HJ1.out.app (p := [40]) ho3 hg3 (hv3.imp (fun h => h) (fun h => by rw [h]; simp)))
      clear ho3 hg3 hv3 HJ0 HJ1 q9 hi1 hi2 hi3 hi4
      have hpm : PS.length ≤ 9223372036854775807 := by omega
      go_wp2_with fail
      go_loopw [3, 7] (fun v i wz => ∃ j : Nat, j ≤ PS.length ∧ i = .int .i64 j ∧ Hid (Jn W1.heap.size wo w (wordF 5 ++ [40] ++ joinF [44, 32] (PS.take j)) v wz)) (fun _ i _ => PS.length - (intOf i).toNat)
      case atStart => exact ⟨0, by omega, rfl, HJ2⟩
      case round =>
        clear HJ2
        obtain ⟨j, hj, rfl, HN⟩ := hrel
        obtain ⟨ab3, cb3, hab3⟩ := HN.out.own.slice
        subst hab3
        obtain ⟨hi1, hi2, hi3, hi4⟩ := HI.out
        by_cases hjl : j < PS.length
        · have hjl2 : (j : Int) < (PS.length : Int) := by omega
          obtain ⟨g4, x4, B4, m4, hA4, _, hc4, hr4⟩ := parts_at HP.out.1 HN.out hjl
          subst hA4
          have HJT := Lib.hid (join_take hjl)
          have hle := join_le PS (j + 1)
          generalize hpj : PS[j] = pj at *
          have HPJ := Lib.hid hpj
          clear hpj
          by_cases h0 : j = 0
          · have d0 : decide (0 < j) = false := decide_eq_false (by omega)
            have HE : Hid (wordF 5 ++ [40] ++ joinF [44, 32] (PS.take (j + 1)) = (wordF 5 ++ [40] ++ joinF [44, 32] (PS.take j)) ++ pj) := Lib.hid (by rw [HJT.out, if_pos h0, h0]; simp [joinF])
            have hlx : (wordF 5 ++ [40] ++ joinF [44, 32] (PS.take j)).length + pj.length + 100 ≤ 140737488355328 := by
              have h2 := congrArg List.length HE.out
              rw [List.length_append, List.length_append, List.length_append (bs := pj), show ([40] : List UInt8).length = 1 from rfl] at h2
              omega
            clear HJT h0 hle
            generalize wordF 5 ++ [40] ++ joinF [44, 32] (PS.take j) = LJ at *
            go_wp2_with (at_builtin; refine wpList_appendX _ rfl (.tmp 133) (.tmp 137) 43 rfl w.heap.size 5 i0 (.int .u8 0) 1 1 Tryd.underlying43 hi1 hi2 hi3 hi4 rfl (by decide) _ _ _ rfl HN.out.own _ x4 pj.length m4 _ rfl hr4 cells_one (by unfold maxLen; omega) (by omega) HN.out.base ?_)
            intro v5 w5 ho5 hg5 hv5
            have HN5 : Hid (Jn W1.heap.size wo w (wordF 5 ++ [40] ++ joinF [44, 32] (PS.take (j + 1))) v5 w5) := Lib.hid (by rw [HE.out]; exact HN.out.app ho5 hg5 hv5)
            clear ho5 hg5 hv5 hc4 hr4 hi1 hi2 hi3 hi4
            go_wp2_with fail
            go_roundw
            case rel => exact ⟨j + 1, by omega, by go_num, HN5⟩
            case measure => simp [intOf]; omega
          · have d0 : decide (0 < j) = true := decide_eq_true (by omega)
            have HE : Hid (wordF 5 ++ [40] ++ joinF [44, 32] (PS.take (j + 1)) = ((wordF 5 ++ [40] ++ joinF [44, 32] (PS.take j)) ++ [44, 32]) ++ pj) := Lib.hid (by rw [HJT.out, if_neg h0]; simp)
            have hlx : (wordF 5 ++ [40] ++ joinF [44, 32] (PS.take j)).length + 2 + pj.length + 100 ≤ 140737488355328 := by
              have h2 := congrArg List.length HE.out
              rw [List.length_append, List.length_append, List.length_append (bs := pj), List.length_append (bs := [44, 32]), show ([40] : List UInt8).length = 1 from rfl, show ([44, 32] : List UInt8).length = 2 from rfl] at h2
              omega
            clear HJT h0 hle
            generalize wordF 5 ++ [40] ++ joinF [44, 32] (PS.take j) = LJ at *
            have HNa := Lib.hid (HN.out.alloc (.cells #[.int .u8 44, .int .u8 32] 5))
            clear hc4 hr4
            go_wp2_with (at_builtin; refine wpList_appendX _ rfl (.tmp 130) (.tmp 131) 43 rfl w.heap.size 5 i0 (.int .u8 0) 1 1 Tryd.underlying43 hi1 hi2 hi3 hi4 rfl (by decide) _ _ _ rfl HNa.out.own _ _ 2 2 [.int .u8 44, .int .u8 32] rfl (reads_new wr 5 [.int .u8 44, .int .u8 32] 2 rfl) (by intro y hy; simp only [List.mem_cons, List.not_mem_nil, or_false] at hy; rcases hy with rfl | rfl <;> rfl) (by unfold maxLen; omega) (by omega) HNa.out.base ?_)
            intro v4' w4 ho4 hg4 hv4
            have HN4 : Hid (Jn W1.heap.size wo w (LJ ++ [44, 32]) v4' w4) := Lib.hid (HNa.out.app (p := [44, 32]) ho4 hg4 (hv4.imp (fun h => h) (fun h => by rw [h]; simp)))
            clear ho4 hg4 hv4 HNa
            obtain ⟨ab4, cb4, hab4⟩ := HN4.out.own.slice
            subst hab4
            obtain ⟨g5, x5, B5, m5, hA5, _, hc5, hr5⟩ := parts_at HP.out.1 HN4.out hjl
            injection hA5 with hA5
            injection hA5 with hA5
            subst hA5
            rw [HPJ.out] at hc5 hr5
            have hlx2 : (LJ ++ [44, 32]).length + pj.length + 100 ≤ 140737488355328 := by rw [List.length_append, show ([44, 32] : List UInt8).length = 2 from rfl]; omega
            generalize LJ ++ [44, 32] = LJ2 at *
            go_wp2_with (at_builtin; refine wpList_appendX _ rfl (.tmp 133) (.tmp 137) 43 rfl w.heap.size 5 i0 (.int .u8 0) 1 1 Tryd.underlying43 hi1 hi2 hi3 hi4 rfl (by decide) _ _ _ rfl HN4.out.own _ x5 pj.length m5 _ rfl hr5 cells_one (by unfold maxLen; omega) (by omega) HN4.out.base ?_)
            intro v5 w5 ho5 hg5 hv5
            have HN5 : Hid (Jn W1.heap.size wo w (wordF 5 ++ [40] ++ joinF [44, 32] (PS.take (j + 1))) v5 w5) := Lib.hid (by rw [HE.out]; exact HN4.out.app ho5 hg5 hv5)
            clear ho5 hg5 hv5 hc5 hr5 hi1 hi2 hi3 hi4
            go_wp2_with fail
            go_roundw
            case rel => exact ⟨j + 1, by omega, by go_num, HN5⟩
            case measure => simp [intOf]; omega
        · obtain rfl : j = PS.length := by omega
          have hle : (wordF 5 ++ [40] ++ joinF [44, 32] (PS.take PS.length)).length + 100 ≤ 140737488355328 := by
            rw [List.take_length, List.length_append, List.length_append, show ([40] : List UInt8).length = 1 from rfl]
            omega
          have HE : Hid (writeF numT (.mk 5 oc f t u lo hi bo op ks) = (wordF 5 ++ [40] ++ joinF [44, 32] (PS.take PS.length)) ++ [41]) := Lib.hid (by rw [HWF.out, List.take_length]; simp)
          have HNa := Lib.hid (HN.out.alloc (.cells #[.int .u8 41] 5))
          generalize wordF 5 ++ [40] ++ joinF [44, 32] (PS.take PS.length) = LJ at *
          go_wp2_with (at_builtin; refine wpList_appendX _ rfl (.tmp 139) (.tmp 140) 43 rfl w.heap.size 5 i0 (.int .u8 0) 1 1 Tryd.underlying43 hi1 hi2 hi3 hi4 rfl (by decide) _ _ _ rfl HNa.out.own _ _ 1 1 [.int .u8 41] rfl (reads_new wr 5 [.int .u8 41] 1 rfl) (by intro y hy; simp only [List.mem_cons, List.not_mem_nil, or_false] at hy; subst hy; rfl) (by unfold maxLen; omega) (by omega) HNa.out.base ?_)
          intro v5 w5 ho5 hg5 hv5
          have HN5 : Hid (Jn W1.heap.size wo w (LJ ++ [41]) v5 w5) := Lib.hid (HNa.out.app (p := [41]) ho5 hg5 (hv5.imp (fun h => h) (fun h => by rw [h]; simp)))
          clear ho5 hg5 hv5 hi1 hi2 hi3 hi4 HNa
          go_wp2_with fail
          go_ret
          exact ⟨_, rfl, by rw [HE.out]; exact HN5.out.own, HN5.out.below⟩
set_option maxRecDepth 100000 in
set_option maxHeartbeats 16000000 in
theorem rwrite_6 (h : RAsk 6 oc f t u lo hi bo op ks L Hh Kd ck w) :
    Calls Tryd.prog 28 #[.agg #[.int .i64 6, .int .i64 oc, .string f, .string t, .string u, .slice L lo.length cl, .slice Hh hi.length ch, .int .i64 bo, .int .i64 op, .slice Kd ks.length ck]] w (RowBX (writeF numT (.mk 6 oc f t u lo hi bo op ks)) w) := by
  have HA := Lib.hid h
  obtain ⟨i0, hi1, hi2, hi3, hi4⟩ := info_parts infoU8
  obtain ⟨j0, hj1, hj2, hj3, hj4⟩ := info_parts infoS8
  have HI := Lib.hid (And.intro hi1 (And.intro hi2 (And.intro hi3 hi4)))
  have HJ := Lib.hid (And.intro hj1 (And.intro hj2 (And.intro hj3 hj4)))
  clear hi1 hi2 hi3 hi4 hj1 hj2 hj3 hj4
  have HOK : Hid (f.size ≤ 140737488351232 ∧ t.size ≤ 140737488351232 ∧ u.size ≤ 140737488351232 ∧ (lo.length * 8 ≤ 140737488351232 ∧ ∀ z ∈ lo, I64 z) ∧ (hi.length * 8 ≤ 140737488351232 ∧ ∀ z ∈ hi, I64 z) ∧ I64 bo ∧ ks.length * 152 ≤ 140737488351232) := Lib.hid (by
    cases h.ok with
    | mk _ _ a1 a2 a3 a4 a5 a6 _ a7 _ => exact ⟨a1, a2, a3, a4, a5, a6, a7⟩)
  have hW : writeF numT (.mk 6 oc f t u lo hi bo op ks) = wordF 6 ++ 40 :: (joinF [44, 32] ([f.data.toList, quoteF t, quoteF u] ++ writeL numT ks) ++ [41]) := by
    rw [writeF, if_neg (by decide)]; rfl
  have HWF := Lib.hid hW
  have HLEN : Hid ((wordF 6 ++ [40]).length + (joinF [44, 32] ([f.data.toList, quoteF t, quoteF u] ++ writeL numT ks)).length + 401 ≤ maxW) := Lib.hid (by
    have := h.len
    rw [hW] at this
    simp only [List.length_append, List.length_cons, List.length_nil] at *
    omega)
  clear hW
  clear h
  go_enter Tryd.func28, Tryd.ntmps28
  go_upto_region 1 with fail
  have HQ0 := Lib.hid (Blk.new w 25 #[.int .i64 6, .int .i64 oc, .string f, .string t, .string u, .slice L lo.length cl, .slice Hh hi.length ch, .int .i64 bo, .int .i64 op, .slice Kd ks.length ck])
  have HW0 := Lib.hid ((Below.refl _ w).alloc (Nat.le_refl _) (.cells #[.int .i64 6, .int .i64 oc, .string f, .string t, .string u, .slice L lo.length cl, .slice Hh hi.length ch, .int .i64 bo, .int .i64 op, .slice Kd ks.length ck] 25))
  have hz0 : (w.alloc (.cells #[.int .i64 6, .int .i64 oc, .string f, .string t, .string u, .slice L lo.length cl, .slice Hh hi.length ch, .int .i64 bo, .int .i64 op, .slice Kd ks.length ck] 25)).heap.size = w.heap.size + 1 := by simp
  generalize (w.alloc (.cells #[.int .i64 6, .int .i64 oc, .string f, .string t, .string u, .slice L lo.length cl, .slice Hh hi.length ch, .int .i64 bo, .int .i64 op, .slice Kd ks.length ck] 25)) = W0 at *
  refine wp_region_held_drew (S := fun V => Below W0.heap.size W0 V) (by kernel_rfl) (Below.refl _ W0).drew (fun hSd0 => ?_)
  refine' wpAnyH_take (i := 1) (v := _) (by simp only [List.getElem?_toArray, List.getElem?_cons_succ, List.getElem?_cons_zero]; rfl) (by kernel_rfl) (by kernel_rfl) (by kernel_rfl) (by exact fun _ _ _ h => h) (Or.inl ⟨by rfl, ?hyd1⟩) hSd0 ?restd1
  case hyd1 => intro V hSw; clear hSw; go_simp; try with_reducible rfl
  try simp only [Act.put, List.setIfInBounds_toArray, List.set_cons_zero, List.set_cons_succ]
  refine' wpAnyH_take (i := 2) (v := _) (by simp only [List.getElem?_toArray, List.getElem?_cons_succ, List.getElem?_cons_zero]; rfl) (by kernel_rfl) (by kernel_rfl) (by kernel_rfl) (by exact fun _ _ _ h => h) (Or.inl ⟨by rfl, ?hyd2⟩) hSd0 ?restd2
  case hyd2 => intro V hSw; have fq := (HQ0.out.below hSw HQ0.out.lt).cell 0; clear hSw; go_simp; try with_reducible rfl
  try simp only [Act.put, List.setIfInBounds_toArray, List.set_cons_zero, List.set_cons_succ]
  refine wpAnyH_ready (rs := [0]) (by kernel_rfl) (by simp) ?_
  refine' AllReadyH.cons (by simp only [List.getElem?_toArray, List.getElem?_cons_zero]; rfl) (fun KC hK => ?_) AllReadyH.nil
  go_simp
  refine (rwords_any _).mono ?_
  rintro e V1 ⟨rfl, hb, hc⟩
  have hc : V1.cell? ⟨w.heap.size + 1, 6, none⟩ = some (.string (str (wordF 6))) := by rw [← hz0]; exact hc 6 (by decide) (by decide)
  have hs1 : Below W0.heap.size W0 V1 := hSd0.trans (hb.mono hSd0.size)
  clear hb
  go_simp
  refine hK.out _ _ hs1 (fun hSd1 => ?_)
  clear hK hs1
  try simp only [Act.put, List.setIfInBounds_toArray, List.set_cons_zero, List.set_cons_succ]
  refine' wpAnyH_take (i := 3) (v := _) (by simp only [List.getElem?_toArray, List.getElem?_cons_succ, List.getElem?_cons_zero]; rfl) (by kernel_rfl) (by kernel_rfl) (by kernel_rfl) (by exact fun _ _ _ h => h) (Or.inl ⟨by rfl, ?hyd3⟩) hSd1 ?restd3
  case hyd3 => intro V hSw; clear hSw; go_simp; try with_reducible rfl
  try simp only [Act.put, List.setIfInBounds_toArray, List.set_cons_zero, List.set_cons_succ]
  refine wpAnyH_ready (rs := [4]) (by kernel_rfl) (by simp) ?_
  refine' AllReadyH.cons (by simp only [List.getElem?_toArray, List.getElem?_cons_succ, List.getElem?_cons_zero]; rfl) (fun KC hK => ?_) AllReadyH.nil
  go_simp
  refine hK.out _ _ hSd1 (fun hSd2 => ?_)
  clear hK
  try simp only [Act.put, List.setIfInBounds_toArray, List.set_cons_zero, List.set_cons_succ]
  refine wpAnyH_ready (rs := [5]) (by kernel_rfl) (by simp) ?_
  refine' AllReadyH.cons (by simp only [List.getElem?_toArray, List.getElem?_cons_succ, List.getElem?_cons_zero]; rfl) (fun KC hK => ?_) AllReadyH.nil
  have hcv := Lib.run_convert_string_bytes (P := Tryd.prog) V1 9 43 5 (str (wordF 6)) (u := .string) Tryd.underlying9 Tryd.underlying43 Tryd.underlying5
  have hox := ownX_bytes V1 w.heap.size 5 (str (wordF 6)) (by have := hSd1.size; omega) (by decide)
  have hbb := below_bytes V1 5 (str (wordF 6))
  generalize Lib.bytesWorld V1 5 (str (wordF 6)) = W1 at *
  go_simp
  have hs1 : Below W0.heap.size W0 W1 := hSd1.trans (hbb.mono hSd1.size)
  refine hK.out _ _ hs1 (fun hSd3 => ?_)
  clear hK
  try simp only [Act.put, List.setIfInBounds_toArray, List.set_cons_zero, List.set_cons_succ]
  refine' wpAnyH_take (i := 6) (v := _) (by simp only [List.getElem?_toArray, List.getElem?_cons_succ, List.getElem?_cons_zero]; rfl) (by kernel_rfl) (by kernel_rfl) (by kernel_rfl) (by exact fun _ _ _ h => h) (Or.inl ⟨by rfl, ?hyd6⟩) hSd3 ?restd6
  case hyd6 => intro V hSw; clear hSw; go_simp; try with_reducible rfl
  try simp only [Act.put, List.setIfInBounds_toArray, List.set_cons_zero, List.set_cons_succ]
  refine wpAnyH_done (by kernel_rfl) ?_ _
  obtain ⟨ab, cb, hab⟩ := hox.slice
  have HB : Hid (OwnX W1 w.heap.size 5 1 (.slice ab (wordF 6).length cb) (wordF 6).length (Lib.byteCells (wordF 6))) := Lib.hid (by rw [hab] at hox; exact hox)
  rw [hab]
  have HBl : Hid (∀ g, (Value.slice ab (wordF 6).length cb).ownBlock = some g → g < W1.heap.size) := Lib.hid (fun g hg => (HB.out.lt g hg).2)
  clear hSd0 hSd1 hSd2 hSd3 hcv hab hox hbb hc
  have HQ1 := Lib.hid (HQ0.out.below hs1 HQ0.out.lt)
  have HW1 := Lib.hid (HW0.out.trans (hs1.mono HW0.out.size))
  have hz1 : w.heap.size + 1 ≤ W1.heap.size := HQ1.out.lt
  clear hs1 hz0
  obtain ⟨c0, c1, c2, c3, c4, c5, c6, c7, c8, c9⟩ := tenB HQ1.out
  have HLq1 : Hid ((quoteF t).length ≤ 140737488355000) := Lib.hid (by have := part_le (ps := [f.data.toList]) (x := quoteF t) (rest := [quoteF u] ++ writeL numT ks) (all := [f.data.toList, quoteF t, quoteF u] ++ writeL numT ks) rfl; have := HLEN.out; unfold maxW at this; omega)
  have HLq2 : Hid ((quoteF u).length ≤ 140737488355000) := Lib.hid (by have := part_le (ps := [f.data.toList, quoteF t]) (x := quoteF u) (rest := [] ++ writeL numT ks) (all := [f.data.toList, quoteF t, quoteF u] ++ writeL numT ks) rfl; have := HLEN.out; unfold maxW at this; omega)
  go_upto_region 11 with fail
  clear c0 c1 c2 c3 c4 c5 c6 c7 c8 c9
  refine wp_mono (Q := fun ex a' V => ex = .normal ∧ ∃ x0 x1 x2  Ab v', Parts W1.heap.size V v' [f.data.toList, quoteF t, quoteF u] ∧ Below W1.heap.size W1 V ∧ a' = { tmps := #[Value.agg #[Value.int IntKind.i64 6, Value.int IntKind.i64 oc, Value.string f, Value.string t, Value.string u, Value.slice L lo.length cl, Value.slice Hh hi.length ch, Value.int IntKind.i64 bo, Value.int IntKind.i64 op, Value.slice Kd ks.length ck], Value.pointer (some { block := w.heap.size, off := 0 }), Value.slice none 0 0, Value.slice ab (str (wordF 6)).size cb, v', undef, undef, undef, Value.slice (some { block := w.heap.size + 1, off := 0 }) 11 11, Value.pointer (some { block := w.heap.size, off := 0 }), Value.int IntKind.i64 6, Value.pointer (some { block := w.heap.size + 1, off := 6 }), Value.string (str (wordF 6)), Value.slice ab (str (wordF 6)).size cb, Value.pointer (some { block := w.heap.size, off := 0 }), Value.int IntKind.i64 6, Value.bool false, undef, Value.pointer (some { block := w.heap.size, off := 0 }), Value.int IntKind.i64 6, Value.bool false, Value.bool false, Value.bool false, Value.bool false, undef, undef, undef, undef, undef, undef, undef, undef, undef, Value.bool true, Value.bool true, Value.slice none 0 0, Value.pointer (some { block := w.heap.size, off := 2 }), Value.string f, x0, Value.pointer (some { block := w.heap.size, off := 3 }), Value.string t, x1, Value.pointer (some { block := w.heap.size, off := 4 }), Value.string u, x2, Value.slice Ab 3 3, v', undef, undef, undef, undef, undef, undef, undef, undef, undef, undef, undef, undef, undef, undef, undef, undef, undef, undef, undef, undef, undef, undef, undef, undef, undef, undef, undef, undef, undef, undef, undef, undef, undef, undef, undef, undef, undef, undef, undef, undef, undef, undef, undef, undef, undef, undef, undef, undef, undef, undef, undef, undef, undef, undef, undef, undef, undef, undef, undef, undef, undef, undef, undef, undef, undef, undef, undef, undef, undef, undef, undef, undef, undef, undef, undef, undef, undef, undef, undef, undef, undef, undef, undef, undef, undef, undef, undef, undef, undef, undef, undef, undef, undef, undef, undef], defers := [] }) ?region ?rest
  case region =>
    obtain ⟨hj1, hj2, hj3, hj4⟩ := HJ.out
    refine wp_region_held_drew (S := fun V => Below W1.heap.size W1 V) (by kernel_rfl) (Below.refl _ W1).drew (fun hS0 => ?_)
    generalize W1.drew = V0 at hS0 ⊢
    refine' wpAnyH_take (i := 0) (v := _) (by simp only [List.getElem?_toArray, List.getElem?_cons_zero]; rfl) (by kernel_rfl) (by kernel_rfl) (by kernel_rfl) (by rintro _ _ _ ⟨h, _⟩; cases h) (Or.inl ⟨by rfl, ?hm0_1⟩) hS0 ?rm0_1
    case hm0_1 => intro V hSw; clear hSw; go_simp; try with_reducible rfl
    try simp only [Act.put, List.setIfInBounds_toArray, List.set_cons_zero, List.set_cons_succ]
    refine' wpAnyH_take (i := 1) (v := _) (by simp only [List.getElem?_toArray, List.getElem?_cons_succ, List.getElem?_cons_zero]; rfl) (by kernel_rfl) (by kernel_rfl) (by kernel_rfl) (by rintro _ _ _ ⟨h, _⟩; cases h) (Or.inl ⟨by rfl, ?hm1_2⟩) hS0 ?rm1_2
    case hm1_2 => intro V hSw; clear hSw; go_simp; try with_reducible rfl
    try simp only [Act.put, List.setIfInBounds_toArray, List.set_cons_zero, List.set_cons_succ]
    refine' wpAnyH_take (i := 2) (v := _) (by simp only [List.getElem?_toArray, List.getElem?_cons_succ, List.getElem?_cons_zero]; rfl) (by kernel_rfl) (by kernel_rfl) (by kernel_rfl) (by rintro _ _ _ ⟨h, _⟩; cases h) (Or.inl ⟨by rfl, ?hm2_3⟩) hS0 ?rm2_3
    case hm2_3 => intro V hSw; have fq := (HQ1.out.below hSw HQ1.out.lt).cell 2; clear hSw; go_simp; try with_reducible rfl
    try simp only [Act.put, List.setIfInBounds_toArray, List.set_cons_zero, List.set_cons_succ]
    refine' wpAnyH_take (i := 4) (v := _) (by simp only [List.getElem?_toArray, List.getElem?_cons_succ, List.getElem?_cons_zero]; rfl) (by kernel_rfl) (by kernel_rfl) (by kernel_rfl) (by rintro _ _ _ ⟨h, _⟩; cases h) (Or.inl ⟨by rfl, ?hm4_4⟩) hS0 ?rm4_4
    case hm4_4 => intro V hSw; clear hSw; go_simp; try with_reducible rfl
    try simp only [Act.put, List.setIfInBounds_toArray, List.set_cons_zero, List.set_cons_succ]
    refine' wpAnyH_take (i := 5) (v := _) (by simp only [List.getElem?_toArray, List.getElem?_cons_succ, List.getElem?_cons_zero]; rfl) (by kernel_rfl) (by kernel_rfl) (by kernel_rfl) (by rintro _ _ _ ⟨h, _⟩; cases h) (Or.inl ⟨by rfl, ?hm5_5⟩) hS0 ?rm5_5
    case hm5_5 => intro V hSw; have fq := (HQ1.out.below hSw HQ1.out.lt).cell 3; clear hSw; go_simp; try with_reducible rfl
    try simp only [Act.put, List.setIfInBounds_toArray, List.set_cons_zero, List.set_cons_succ]
    refine' wpAnyH_take (i := 7) (v := _) (by simp only [List.getElem?_toArray, List.getElem?_cons_succ, List.getElem?_cons_zero]; rfl) (by kernel_rfl) (by kernel_rfl) (by kernel_rfl) (by rintro _ _ _ ⟨h, _⟩; cases h) (Or.inl ⟨by rfl, ?hm7_6⟩) hS0 ?rm7_6
    case hm7_6 => intro V hSw; clear hSw; go_simp; try with_reducible rfl
    try simp only [Act.put, List.setIfInBounds_toArray, List.set_cons_zero, List.set_cons_succ]
    refine' wpAnyH_take (i := 8) (v := _) (by simp only [List.getElem?_toArray, List.getElem?_cons_succ, List.getElem?_cons_zero]; rfl) (by kernel_rfl) (by kernel_rfl) (by kernel_rfl) (by rintro _ _ _ ⟨h, _⟩; cases h) (Or.inl ⟨by rfl, ?hm8_7⟩) hS0 ?rm8_7
    case hm8_7 => intro V hSw; have fq := (HQ1.out.below hSw HQ1.out.lt).cell 4; clear hSw; go_simp; try with_reducible rfl
    try simp only [Act.put, List.setIfInBounds_toArray, List.set_cons_zero, List.set_cons_succ]
    refine wpAnyH_ready (rs := [3, 6]) (by kernel_rfl) (by simp) ?_
    refine' AllReadyH.cons (by simp only [List.getElem?_toArray, List.getElem?_cons_succ, List.getElem?_cons_zero]; rfl) (fun K hK => ?_) ?_
    · skip
      have hcv := Lib.run_convert_string_bytes (P := Tryd.prog) V0 9 43 5 f (u := .string) Tryd.underlying9 Tryd.underlying43 Tryd.underlying5
      have hox := ownX_bytes V0 W1.heap.size 5 f hS0.size (by have := HOK.out.1; unfold maxLen; omega)
      have hbb := below_bytes V0 5 f
      generalize Lib.bytesWorld V0 5 f = V1 at *
      generalize hxv : Value.slice (some ⟨V0.heap.size, 0, none⟩) f.size (grownCap V0 f.size 0 5) = x0 at *
      clear hxv
      go_simp
      have hE0 : Elt V1 W1.heap.size V1.heap.size x0 (f.data.toList) := Elt.ofX hox (Nat.le_refl _)
      have hS1 : Below W1.heap.size W1 V1 := hS0.trans (hbb.mono hS0.size)
      refine hK.out _ _ hS1 (fun hT => ?_)
      clear hK hcv hox hT
      try simp only [Act.put, List.setIfInBounds_toArray, List.set_cons_zero, List.set_cons_succ]
      clear hbb
      refine wpAnyH_ready (rs := [6]) (by kernel_rfl) (by simp) ?_
      refine' AllReadyH.cons (by simp only [List.getElem?_toArray, List.getElem?_cons_succ, List.getElem?_cons_zero]; rfl) (fun K hK => ?_) ?_
      · skip
        go_simp
        refine (rquoted_any t _ HLq1.out).mono ?_
        rintro e V2 ⟨x1, rfl, ho, hb⟩
        have hE1 : Elt V2 W1.heap.size V2.heap.size x1 (quoteF t) := Elt.ofX (OwnX.of ho) hS1.size
        have hS2 : Below W1.heap.size W1 V2 := hS1.trans (hb.mono hS1.size)
        replace hE0 := hE0.below hb (Nat.le_refl _)
        clear ho hb
        go_simp
        refine hK.out _ _ hS2 (fun hT => ?_)
        clear hK hT
        try simp only [Act.put, List.setIfInBounds_toArray, List.set_cons_zero, List.set_cons_succ]
        refine wpAnyH_ready (rs := [9]) (by kernel_rfl) (by simp) ?_
        refine' AllReadyH.cons (by simp only [List.getElem?_toArray, List.getElem?_cons_succ, List.getElem?_cons_zero]; rfl) (fun K hK => ?_) ?_
        · skip
          go_simp
          refine (rquoted_any u _ HLq2.out).mono ?_
          rintro e V3 ⟨x2, rfl, ho, hb⟩
          have hE2 : Elt V3 W1.heap.size V3.heap.size x2 (quoteF u) := Elt.ofX (OwnX.of ho) hS2.size
          have hS3 : Below W1.heap.size W1 V3 := hS2.trans (hb.mono hS2.size)
          replace hE0 := hE0.below hb (Nat.le_refl _)
          replace hE1 := hE1.below hb (Nat.le_refl _)
          clear ho hb
          go_simp
          refine hK.out _ _ hS3 (fun hT => ?_)
          clear hK hT
          try simp only [Act.put, List.setIfInBounds_toArray, List.set_cons_zero, List.set_cons_succ]
          obtain ⟨A0, C0, hx⟩ := hE0.slice
          replace hx : x0 = .slice A0 f.size C0 := hx
          subst hx
          obtain ⟨A1, C1, hx⟩ := hE1.slice
          replace hx : x1 = .slice A1 (quoteF t).length C1 := hx
          subst hx
          obtain ⟨A2, C2, hx⟩ := hE2.slice
          replace hx : x2 = .slice A2 (quoteF u).length C2 := hx
          subst hx
          refine wpAnyH_ready (rs := [10]) (by kernel_rfl) (by simp) ?_
          refine' AllReadyH.cons (by simp only [List.getElem?_toArray, List.getElem?_cons_succ, List.getElem?_cons_zero]; rfl) (fun K hK => ?_) AllReadyH.nil
          have hRn := reads_new V3 43 [.slice A0 f.size C0, .slice A1 (quoteF t).length C1, .slice A2 (quoteF u).length C2] 3 rfl
          go_simp
          replace hE0 := hE0.below ((Below.refl _ V3).alloc (Nat.le_refl _) (.cells #[.slice A0 f.size C0, .slice A1 (quoteF t).length C1, .slice A2 (quoteF u).length C2] 43)) (Nat.le_refl _)
          replace hE1 := hE1.below ((Below.refl _ V3).alloc (Nat.le_refl _) (.cells #[.slice A0 f.size C0, .slice A1 (quoteF t).length C1, .slice A2 (quoteF u).length C2] 43)) (Nat.le_refl _)
          replace hE2 := hE2.below ((Below.refl _ V3).alloc (Nat.le_refl _) (.cells #[.slice A0 f.size C0, .slice A1 (quoteF t).length C1, .slice A2 (quoteF u).length C2] 43)) (Nat.le_refl _)
          have hS4 := Below.alloc hS3 hS3.size (.cells #[.slice A0 f.size C0, .slice A1 (quoteF t).length C1, .slice A2 (quoteF u).length C2] 43)
          generalize hAb : (some ⟨V3.heap.size, 0, none⟩ : Option Addr) = Ab at *
          clear hAb
          generalize V3.alloc (.cells #[.slice A0 f.size C0, .slice A1 (quoteF t).length C1, .slice A2 (quoteF u).length C2] 43) = V4 at *
          refine hK.out _ _ hS4 (fun hT => ?_)
          clear hK
          try simp only [Act.put, List.setIfInBounds_toArray, List.set_cons_zero, List.set_cons_succ]
          refine wpAnyH_ready (rs := [11]) (by kernel_rfl) (by simp) ?_
          refine' AllReadyH.cons (by simp only [List.getElem?_toArray, List.getElem?_cons_succ, List.getElem?_cons_zero]; rfl) (fun K hK => ?_) AllReadyH.nil
          refine step_append_any _ rfl (.tmp 35) (.tmp 45) 74 rfl W1.heap.size 43 j0 (.slice none 0 0) 1 24 Tryd.underlying74 hj1 hj2 hj3 hj4 rfl (by decide) (.slice none 0 0) 0 [] rfl (World.ownsRow_nil _ _ _ _) _ Ab 3 3 [.slice A0 f.size C0, .slice A1 (quoteF t).length C1, .slice A2 (quoteF u).length C2] rfl hRn (by intro y hy; simp only [List.mem_cons, List.not_mem_nil, or_false] at hy; rcases hy with rfl | rfl | rfl; exact hE0.one; exact hE1.one; exact hE2.one) (by decide) (by decide) hS4.size ?_
          intro v' w' ho hg _
          have hP : Parts W1.heap.size w' v' [f.data.toList, quoteF t, quoteF u] := parts_more (ps := []) (ps' := [f.data.toList, quoteF t, quoteF u]) (World.ownsRow_nil _ _ _ _) rfl (parts_one (xs := [.slice A0 f.size C0, .slice A1 (quoteF t).length C1]) (ps := [f.data.toList, quoteF t]) (parts_one (xs := [.slice A0 f.size C0]) (ps := [f.data.toList]) (parts_one (xs := []) (ps := []) (fun i x p h => by simp at h) rfl hE0) rfl hE1) rfl hE2) ho hg
          have hSe : Below W1.heap.size W1 w' := hS4.grown hg hS4.size (fun r e => by cases e)
          refine hK.out _ _ hSe (fun hT => ?_)
          clear hK
          try simp only [Act.put, List.setIfInBounds_toArray, List.set_cons_zero, List.set_cons_succ]
          refine' wpAnyH_take (i := 12) (v := _) (by simp only [List.getElem?_toArray, List.getElem?_cons_succ, List.getElem?_cons_zero]; rfl) (by kernel_rfl) (by kernel_rfl) (by kernel_rfl) (by rintro _ _ _ ⟨h, _⟩; cases h) (Or.inl ⟨by rfl, ?hm12_8⟩) hSe ?rm12_8
          case hm12_8 => intro V hSw; clear hSw; go_simp; try with_reducible rfl
          try simp only [Act.put, List.setIfInBounds_toArray, List.set_cons_zero, List.set_cons_succ]
          refine wpAnyH_done (by kernel_rfl) ?_ _
          exact ⟨rfl, .slice A0 f.size C0, .slice A1 (quoteF t).length C1, .slice A2 (quoteF u).length C2, Ab, v', hP, hSe, rfl⟩
        exact AllReadyH.nil
      exact AllReadyH.nil
    refine' AllReadyH.cons (by simp only [List.getElem?_toArray, List.getElem?_cons_succ, List.getElem?_cons_zero]; rfl) (fun K hK => ?_) ?_
    · skip
      go_simp
      refine (rquoted_any t _ HLq1.out).mono ?_
      rintro e V1 ⟨x1, rfl, ho, hb⟩
      have hE1 : Elt V1 W1.heap.size V1.heap.size x1 (quoteF t) := Elt.ofX (OwnX.of ho) hS0.size
      have hS1 : Below W1.heap.size W1 V1 := hS0.trans (hb.mono hS0.size)
      clear ho hb
      go_simp
      refine hK.out _ _ hS1 (fun hT => ?_)
      clear hK hT
      try simp only [Act.put, List.setIfInBounds_toArray, List.set_cons_zero, List.set_cons_succ]
      refine wpAnyH_ready (rs := [3, 9]) (by kernel_rfl) (by simp) ?_
      refine' AllReadyH.cons (by simp only [List.getElem?_toArray, List.getElem?_cons_succ, List.getElem?_cons_zero]; rfl) (fun K hK => ?_) ?_
      · skip
        have hcv := Lib.run_convert_string_bytes (P := Tryd.prog) V1 9 43 5 f (u := .string) Tryd.underlying9 Tryd.underlying43 Tryd.underlying5
        have hox := ownX_bytes V1 W1.heap.size 5 f hS1.size (by have := HOK.out.1; unfold maxLen; omega)
        have hbb := below_bytes V1 5 f
        generalize Lib.bytesWorld V1 5 f = V2 at *
        generalize hxv : Value.slice (some ⟨V1.heap.size, 0, none⟩) f.size (grownCap V1 f.size 0 5) = x0 at *
        clear hxv
        go_simp
        replace hE1 := hE1.below hbb (Nat.le_refl _)
        have hE0 : Elt V2 W1.heap.size V2.heap.size x0 (f.data.toList) := Elt.ofX hox (Nat.le_refl _)
        have hS2 : Below W1.heap.size W1 V2 := hS1.trans (hbb.mono hS1.size)
        refine hK.out _ _ hS2 (fun hT => ?_)
        clear hK hcv hox hT
        try simp only [Act.put, List.setIfInBounds_toArray, List.set_cons_zero, List.set_cons_succ]
        clear hbb
        refine wpAnyH_ready (rs := [9]) (by kernel_rfl) (by simp) ?_
        refine' AllReadyH.cons (by simp only [List.getElem?_toArray, List.getElem?_cons_succ, List.getElem?_cons_zero]; rfl) (fun K hK => ?_) ?_
        · skip
          go_simp
          refine (rquoted_any u _ HLq2.out).mono ?_
          rintro e V3 ⟨x2, rfl, ho, hb⟩
          have hE2 : Elt V3 W1.heap.size V3.heap.size x2 (quoteF u) := Elt.ofX (OwnX.of ho) hS2.size
          have hS3 : Below W1.heap.size W1 V3 := hS2.trans (hb.mono hS2.size)
          replace hE1 := hE1.below hb (Nat.le_refl _)
          replace hE0 := hE0.below hb (Nat.le_refl _)
          clear ho hb
          go_simp
          refine hK.out _ _ hS3 (fun hT => ?_)
          clear hK hT
          try simp only [Act.put, List.setIfInBounds_toArray, List.set_cons_zero, List.set_cons_succ]
          obtain ⟨A0, C0, hx⟩ := hE0.slice
          replace hx : x0 = .slice A0 f.size C0 := hx
          subst hx
          obtain ⟨A1, C1, hx⟩ := hE1.slice
          replace hx : x1 = .slice A1 (quoteF t).length C1 := hx
          subst hx
          obtain ⟨A2, C2, hx⟩ := hE2.slice
          replace hx : x2 = .slice A2 (quoteF u).length C2 := hx
          subst hx
          refine wpAnyH_ready (rs := [10]) (by kernel_rfl) (by simp) ?_
          refine' AllReadyH.cons (by simp only [List.getElem?_toArray, List.getElem?_cons_succ, List.getElem?_cons_zero]; rfl) (fun K hK => ?_) AllReadyH.nil
          have hRn := reads_new V3 43 [.slice A0 f.size C0, .slice A1 (quoteF t).length C1, .slice A2 (quoteF u).length C2] 3 rfl
          go_simp
          replace hE1 := hE1.below ((Below.refl _ V3).alloc (Nat.le_refl _) (.cells #[.slice A0 f.size C0, .slice A1 (quoteF t).length C1, .slice A2 (quoteF u).length C2] 43)) (Nat.le_refl _)
          replace hE0 := hE0.below ((Below.refl _ V3).alloc (Nat.le_refl _) (.cells #[.slice A0 f.size C0, .slice A1 (quoteF t).length C1, .slice A2 (quoteF u).length C2] 43)) (Nat.le_refl _)
          replace hE2 := hE2.below ((Below.refl _ V3).alloc (Nat.le_refl _) (.cells #[.slice A0 f.size C0, .slice A1 (quoteF t).length C1, .slice A2 (quoteF u).length C2] 43)) (Nat.le_refl _)
          have hS4 := Below.alloc hS3 hS3.size (.cells #[.slice A0 f.size C0, .slice A1 (quoteF t).length C1, .slice A2 (quoteF u).length C2] 43)
          generalize hAb : (some ⟨V3.heap.size, 0, none⟩ : Option Addr) = Ab at *
          clear hAb
          generalize V3.alloc (.cells #[.slice A0 f.size C0, .slice A1 (quoteF t).length C1, .slice A2 (quoteF u).length C2] 43) = V4 at *
          refine hK.out _ _ hS4 (fun hT => ?_)
          clear hK
          try simp only [Act.put, List.setIfInBounds_toArray, List.set_cons_zero, List.set_cons_succ]
          refine wpAnyH_ready (rs := [11]) (by kernel_rfl) (by simp) ?_
          refine' AllReadyH.cons (by simp only [List.getElem?_toArray, List.getElem?_cons_succ, List.getElem?_cons_zero]; rfl) (fun K hK => ?_) AllReadyH.nil
          refine step_append_any _ rfl (.tmp 35) (.tmp 45) 74 rfl W1.heap.size 43 j0 (.slice none 0 0) 1 24 Tryd.underlying74 hj1 hj2 hj3 hj4 rfl (by decide) (.slice none 0 0) 0 [] rfl (World.ownsRow_nil _ _ _ _) _ Ab 3 3 [.slice A0 f.size C0, .slice A1 (quoteF t).length C1, .slice A2 (quoteF u).length C2] rfl hRn (by intro y hy; simp only [List.mem_cons, List.not_mem_nil, or_false] at hy; rcases hy with rfl | rfl | rfl; exact hE0.one; exact hE1.one; exact hE2.one) (by decide) (by decide) hS4.size ?_
          intro v' w' ho hg _
          have hP : Parts W1.heap.size w' v' [f.data.toList, quoteF t, quoteF u] := parts_more (ps := []) (ps' := [f.data.toList, quoteF t, quoteF u]) (World.ownsRow_nil _ _ _ _) rfl (parts_one (xs := [.slice A0 f.size C0, .slice A1 (quoteF t).length C1]) (ps := [f.data.toList, quoteF t]) (parts_one (xs := [.slice A0 f.size C0]) (ps := [f.data.toList]) (parts_one (xs := []) (ps := []) (fun i x p h => by simp at h) rfl hE0) rfl hE1) rfl hE2) ho hg
          have hSe : Below W1.heap.size W1 w' := hS4.grown hg hS4.size (fun r e => by cases e)
          refine hK.out _ _ hSe (fun hT => ?_)
          clear hK
          try simp only [Act.put, List.setIfInBounds_toArray, List.set_cons_zero, List.set_cons_succ]
          refine' wpAnyH_take (i := 12) (v := _) (by simp only [List.getElem?_toArray, List.getElem?_cons_succ, List.getElem?_cons_zero]; rfl) (by kernel_rfl) (by kernel_rfl) (by kernel_rfl) (by rintro _ _ _ ⟨h, _⟩; cases h) (Or.inl ⟨by rfl, ?hm12_9⟩) hSe ?rm12_9
          case hm12_9 => intro V hSw; clear hSw; go_simp; try with_reducible rfl
          try simp only [Act.put, List.setIfInBounds_toArray, List.set_cons_zero, List.set_cons_succ]
          refine wpAnyH_done (by kernel_rfl) ?_ _
          exact ⟨rfl, .slice A0 f.size C0, .slice A1 (quoteF t).length C1, .slice A2 (quoteF u).length C2, Ab, v', hP, hSe, rfl⟩
        exact AllReadyH.nil
      refine' AllReadyH.cons (by simp only [List.getElem?_toArray, List.getElem?_cons_succ, List.getElem?_cons_zero]; rfl) (fun K hK => ?_) ?_
      · skip
        go_simp
        refine (rquoted_any u _ HLq2.out).mono ?_
        rintro e V2 ⟨x2, rfl, ho, hb⟩
        have hE2 : Elt V2 W1.heap.size V2.heap.size x2 (quoteF u) := Elt.ofX (OwnX.of ho) hS1.size
        have hS2 : Below W1.heap.size W1 V2 := hS1.trans (hb.mono hS1.size)
        replace hE1 := hE1.below hb (Nat.le_refl _)
        clear ho hb
        go_simp
        refine hK.out _ _ hS2 (fun hT => ?_)
        clear hK hT
        try simp only [Act.put, List.setIfInBounds_toArray, List.set_cons_zero, List.set_cons_succ]
        refine wpAnyH_ready (rs := [3]) (by kernel_rfl) (by simp) ?_
        refine' AllReadyH.cons (by simp only [List.getElem?_toArray, List.getElem?_cons_succ, List.getElem?_cons_zero]; rfl) (fun K hK => ?_) ?_
        · skip
          have hcv := Lib.run_convert_string_bytes (P := Tryd.prog) V2 9 43 5 f (u := .string) Tryd.underlying9 Tryd.underlying43 Tryd.underlying5
          have hox := ownX_bytes V2 W1.heap.size 5 f hS2.size (by have := HOK.out.1; unfold maxLen; omega)
          have hbb := below_bytes V2 5 f
          generalize Lib.bytesWorld V2 5 f = V3 at *
          generalize hxv : Value.slice (some ⟨V2.heap.size, 0, none⟩) f.size (grownCap V2 f.size 0 5) = x0 at *
          clear hxv
          go_simp
          replace hE1 := hE1.below hbb (Nat.le_refl _)
          replace hE2 := hE2.below hbb (Nat.le_refl _)
          have hE0 : Elt V3 W1.heap.size V3.heap.size x0 (f.data.toList) := Elt.ofX hox (Nat.le_refl _)
          have hS3 : Below W1.heap.size W1 V3 := hS2.trans (hbb.mono hS2.size)
          refine hK.out _ _ hS3 (fun hT => ?_)
          clear hK hcv hox hT
          try simp only [Act.put, List.setIfInBounds_toArray, List.set_cons_zero, List.set_cons_succ]
          clear hbb
          obtain ⟨A0, C0, hx⟩ := hE0.slice
          replace hx : x0 = .slice A0 f.size C0 := hx
          subst hx
          obtain ⟨A1, C1, hx⟩ := hE1.slice
          replace hx : x1 = .slice A1 (quoteF t).length C1 := hx
          subst hx
          obtain ⟨A2, C2, hx⟩ := hE2.slice
          replace hx : x2 = .slice A2 (quoteF u).length C2 := hx
          subst hx
          refine wpAnyH_ready (rs := [10]) (by kernel_rfl) (by simp) ?_
          refine' AllReadyH.cons (by simp only [List.getElem?_toArray, List.getElem?_cons_succ, List.getElem?_cons_zero]; rfl) (fun K hK => ?_) AllReadyH.nil
          have hRn := reads_new V3 43 [.slice A0 f.size C0, .slice A1 (quoteF t).length C1, .slice A2 (quoteF u).length C2] 3 rfl
          go_simp
          replace hE1 := hE1.below ((Below.refl _ V3).alloc (Nat.le_refl _) (.cells #[.slice A0 f.size C0, .slice A1 (quoteF t).length C1, .slice A2 (quoteF u).length C2] 43)) (Nat.le_refl _)
          replace hE2 := hE2.below ((Below.refl _ V3).alloc (Nat.le_refl _) (.cells #[.slice A0 f.size C0, .slice A1 (quoteF t).length C1, .slice A2 (quoteF u).length C2] 43)) (Nat.le_refl _)
          replace hE0 := hE0.below ((Below.refl _ V3).alloc (Nat.le_refl _) (.cells #[.slice A0 f.size C0, .slice A1 (quoteF t).length C1, .slice A2 (quoteF u).length C2] 43)) (Nat.le_refl _)
          have hS4 := Below.alloc hS3 hS3.size (.cells #[.slice A0 f.size C0, .slice A1 (quoteF t).length C1, .slice A2 (quoteF u).length C2] 43)
          generalize hAb : (some ⟨V3.heap.size, 0, none⟩ : Option Addr) = Ab at *
          clear hAb
          generalize V3.alloc (.cells #[.slice A0 f.size C0, .slice A1 (quoteF t).length C1, .slice A2 (quoteF u).length C2] 43) = V4 at *
          refine hK.out _ _ hS4 (fun hT => ?_)
          clear hK
          try simp only [Act.put, List.setIfInBounds_toArray, List.set_cons_zero, List.set_cons_succ]
          refine wpAnyH_ready (rs := [11]) (by kernel_rfl) (by simp) ?_
          refine' AllReadyH.cons (by simp only [List.getElem?_toArray, List.getElem?_cons_succ, List.getElem?_cons_zero]; rfl) (fun K hK => ?_) AllReadyH.nil
          refine step_append_any _ rfl (.tmp 35) (.tmp 45) 74 rfl W1.heap.size 43 j0 (.slice none 0 0) 1 24 Tryd.underlying74 hj1 hj2 hj3 hj4 rfl (by decide) (.slice none 0 0) 0 [] rfl (World.ownsRow_nil _ _ _ _) _ Ab 3 3 [.slice A0 f.size C0, .slice A1 (quoteF t).length C1, .slice A2 (quoteF u).length C2] rfl hRn (by intro y hy; simp only [List.mem_cons, List.not_mem_nil, or_false] at hy; rcases hy with rfl | rfl | rfl; exact hE0.one; exact hE1.one; exact hE2.one) (by decide) (by decide) hS4.size ?_
          intro v' w' ho hg _
          have hP : Parts W1.heap.size w' v' [f.data.toList, quoteF t, quoteF u] := parts_more (ps := []) (ps' := [f.data.toList, quoteF t, quoteF u]) (World.ownsRow_nil _ _ _ _) rfl (parts_one (xs := [.slice A0 f.size C0, .slice A1 (quoteF t).length C1]) (ps := [f.data.toList, quoteF t]) (parts_one (xs := [.slice A0 f.size C0]) (ps := [f.data.toList]) (parts_one (xs := []) (ps := []) (fun i x p h => by simp at h) rfl hE0) rfl hE1) rfl hE2) ho hg
          have hSe : Below W1.heap.size W1 w' := hS4.grown hg hS4.size (fun r e => by cases e)
          refine hK.out _ _ hSe (fun hT => ?_)
          clear hK
          try simp only [Act.put, List.setIfInBounds_toArray, List.set_cons_zero, List.set_cons_succ]
          refine' wpAnyH_take (i := 12) (v := _) (by simp only [List.getElem?_toArray, List.getElem?_cons_succ, List.getElem?_cons_zero]; rfl) (by kernel_rfl) (by kernel_rfl) (by kernel_rfl) (by rintro _ _ _ ⟨h, _⟩; cases h) (Or.inl ⟨by rfl, ?hm12_10⟩) hSe ?rm12_10
          case hm12_10 => intro V hSw; clear hSw; go_simp; try with_reducible rfl
          try simp only [Act.put, List.setIfInBounds_toArray, List.set_cons_zero, List.set_cons_succ]
          refine wpAnyH_done (by kernel_rfl) ?_ _
          exact ⟨rfl, .slice A0 f.size C0, .slice A1 (quoteF t).length C1, .slice A2 (quoteF u).length C2, Ab, v', hP, hSe, rfl⟩
        exact AllReadyH.nil
      exact AllReadyH.nil
    exact AllReadyH.nil
  rintro ex a' W2 ⟨rfl, x0, x1, x2, Ab, v4, hP, hb2, rfl⟩
  have HP2 := Lib.hid hP; have HB2 := Lib.hid hb2
  clear hP hb2
  obtain ⟨_, _, hke, hckA, hmkA, helK⟩ := at_kids HA.out.kids
  injection hke with hk1 _ hk3
  subst hk1 hk3
  have HKS := Lib.hid helK
  clear helK hckA
  have hks : ks.length * 152 ≤ 140737488351232 := HOK.out.2.2.2.2.2.2
  have H0 : Hid (Parts W1.heap.size W2 v4 ([f.data.toList, quoteF t, quoteF u] ++ (writeL numT ks).take 0) ∧ Below W1.heap.size W1 W2) := Lib.hid ⟨by simpa using HP2.out, HB2.out⟩
  clear HP2 HB2
  go_wp2_with fail
  go_loopw [4, 5] (fun v i wr => ∃ k : Nat, k ≤ ks.length ∧ i = .int .i64 k ∧ Hid (Parts W1.heap.size wr v ([f.data.toList, quoteF t, quoteF u] ++ (writeL numT ks).take k) ∧ Below W1.heap.size W1 wr)) (fun _ i _ => ks.length - (intOf i).toNat)
  case atStart => exact ⟨0, by omega, rfl, H0⟩
  case round =>
    skip
    clear H0
    obtain ⟨k, hk, rfl, HP⟩ := hrel
    have HQr := Lib.hid (HQ1.out.below HP.out.2 HQ1.out.lt)
    have HWr := Lib.hid (HW1.out.trans (HP.out.2.mono HW1.out.size))
    have hzr := HP.out.2.size
    have q9 : wr.cell? ⟨w.heap.size, 9, none⟩ = some (.slice Kd ks.length ck) := HQr.out.cell 9
    by_cases hlt : k < ks.length
    · have hlt2 : (k : Int) < (ks.length : Int) := by omega
      obtain ⟨ad, us, hKe, hba, au, lu, cu⟩ := HKS.out k hlt
      subst hKe
      replace cu := cu.keep (w' := wr) (fun p hp => HWr.out.cell (by rw [hp, block_of_add]; exact hba))
      have HD := Lib.hid (fun (W : World) (hW : Below w.heap.size w W) => HA.out.down ks[k] (List.getElem_mem _) us W (atL_ltw au hW))
      have hocc := HA.out.occ ks[k] (List.getElem_mem _)
      have HX := Lib.hid (kids_takeR hlt)
      have HLK : Hid ((markF (QryP.oc ks[k]) ++ writeF numT ks[k]).length + 400 ≤ maxW) := Lib.hid (by have := kid_part (pc := [f.data.toList, quoteF t, quoteF u]) hlt; have := HLEN.out; omega)
      have HPL : Hid (([f.data.toList, quoteF t, quoteF u] ++ (writeL numT ks).take k).length ≤ ks.length + 3) := Lib.hid (by rw [List.length_append, List.length_take, writeL_len]; simp only [List.length_cons, List.length_nil]; omega)
      have q0 : wr.cell? ⟨w.heap.size, 0, none⟩ = some (.int .i64 6) := HQr.out.cell 0
      generalize hq : ks[k] = q at *
      have HNX : Hid (∀ (W : World) (v : Value), Parts W1.heap.size W v (([f.data.toList, quoteF t, quoteF u] ++ (writeL numT ks).take k) ++ [markF (QryP.oc q) ++ writeF numT q]) → Parts W1.heap.size W v ([f.data.toList, quoteF t, quoteF u] ++ (writeL numT ks).take (k + 1))) := Lib.hid (fun W v h => by rw [HX.out, ← List.append_assoc]; exact h)
      clear HX
      generalize [f.data.toList, quoteF t, quoteF u] ++ (writeL numT ks).take k = PS at *
      obtain ⟨ao, ca, hao⟩ := HP.out.1.slice
      subst hao
      generalize hTX : writeF numT q = TX at *
      clear hTX
      obtain ⟨kd', oc', f', t', u', lo', hi', b', op', ks'⟩ := q
      obtain ⟨vl, vh, vk, rfl, hvl, hvh, hvk⟩ := at_cells au
      obtain ⟨B1, d1, rfl, _⟩ := at_ints hvl
      obtain ⟨B2, d2, rfl, _⟩ := at_ints hvh
      obtain ⟨B3, d3, rfl⟩ := at_sl hvk
      obtain ⟨a0, a1, a2, a3, a4, a5, a6, a7, a8, a9⟩ := ten cu
      have HCU := Lib.hid cu
      clear hq au hvl hvh hvk cu lu
      replace hocc : ((6 : Int) = 8 → 1 ≤ oc' ∧ oc' ≤ 4) ∧ ((6 : Int) ≠ 8 → oc' = 0) := hocc
      change Hid ((markF oc' ++ TX).length + 400 ≤ maxW) at HLK
      change Hid (∀ (W : World) (v : Value), Parts W1.heap.size W v (PS ++ [markF oc' ++ TX]) → Parts W1.heap.size W v ([f.data.toList, quoteF t, quoteF u] ++ (writeL numT ks).take (k + 1))) at HNX
      obtain ⟨hi1, hi2, hi3, hi4⟩ := HI.out
      obtain ⟨hj1, hj2, hj3, hj4⟩ := HJ.out
      obtain rfl : oc' = 0 := hocc.2 (by decide)
      clear hocc
      go_wp2_with fail
      refine (HD.out _ HWr.out).mono ?_
      rintro e w2 ⟨x, rfl, ho, hb⟩
      obtain ⟨A6, C6, hx⟩ := ho.slice
      subst hx
      have hrd := ho.reads
      have hB2 : Below wr.heap.size wr w2 := hb
      have h6 : OwnX w2 wr.heap.size 5 1 (.slice none 0 0) 0 (Lib.byteCells ([] : List UInt8)) := ⟨by simp [Lib.byteCells], .inl ⟨rfl, rfl⟩⟩
      clear ho hb a0 a1 a2 a3 a4 a5 a6 a7 a8 a9 q9 q0 
      have hlk : 0 + TX.length + 400 ≤ maxW := by have := HLK.out; first | (simpa [markF] using this) | (simp [markF] at this; omega)
      have hz2 := hB2.size
      go_wp2_with (at_builtin; refine wpList_appendX _ rfl (.tmp 107) (.tmp 113) 43 rfl wr.heap.size 5 i0 (.int .u8 0) 1 1 Tryd.underlying43 hi1 hi2 hi3 hi4 rfl (by decide) _ _ _ rfl h6 _ A6 TX.length C6 _ rfl hrd cells_one (by unfold maxLen; unfold maxW at hlk; omega) (by unfold maxW at hlk; omega) hz2 ?_)
      intro v7 w7 ho7 hg7 hv7
      have h7 : OwnX w7 wr.heap.size 5 1 v7 (([] : List UInt8) ++ TX).length (Lib.byteCells (([] : List UInt8) ++ TX)) := by
        have e : Lib.byteCells (([] : List UInt8) ++ TX) = Lib.byteCells ([] : List UInt8) ++ Lib.byteCells TX := by simp [Lib.byteCells]
        first | (rw [e, List.length_append]; exact ho7) | exact ho7
      have hB7 : Below wr.heap.size wr w7 := hB2.grown hg7 hz2 (fun r e => (h6.lt r e).1)
      have hE7 : Elt w7 W1.heap.size w7.heap.size v7 (([] : List UInt8) ++ TX) := Elt.ofX h7 hzr
      obtain ⟨A7, C7, hx⟩ := hE7.slice
      subst hx
      have hPz := (HP.out.1.below hB7).below ((Below.refl _ w7).alloc (Nat.le_refl _) (.cells #[.slice A7 (([] : List UInt8) ++ TX).length C7] 43))
      have hE8 := hE7.below ((Below.refl _ w7).alloc (Nat.le_refl _) (.cells #[.slice A7 (([] : List UInt8) ++ TX).length C7] 43)) (Nat.le_refl _)
      obtain ⟨xs, hox, hxl, hxe⟩ := hPz
      have hRn := reads_new w7 43 [.slice A7 (([] : List UInt8) ++ TX).length C7] 1 rfl
      have hB8 : Below W1.heap.size W1 (w7.alloc (.cells #[.slice A7 (([] : List UInt8) ++ TX).length C7] 43)) := (HP.out.2.trans (hB7.mono hzr)).alloc (Nat.le_trans hzr hB7.size) _
      have hpl := HPL.out
      clear ho7 hg7 hv7 h6 hrd hlk hE7 h7 hB2
      go_wp2_with (at_builtin; refine wpList_append_any _ rfl (.tmp 115) (.tmp 117) 74 rfl W1.heap.size 43 j0 (.slice none 0 0) 1 24 Tryd.underlying74 hj1 hj2 hj3 hj4 rfl (by decide) _ _ _ rfl hox _ _ 1 1 [.slice A7 (([] : List UInt8) ++ TX).length C7] rfl hRn (by intro y hy; simp only [List.mem_cons, List.not_mem_nil, or_false] at hy; subst hy; rfl) (by unfold maxLen; omega) (by omega) hB8.size ?_)
      intro v8 w8 ho8 hg8 _
      have HN : Hid (Parts W1.heap.size w8 v8 ([f.data.toList, quoteF t, quoteF u] ++ (writeL numT ks).take (k + 1)) ∧ Below W1.heap.size W1 w8) := Lib.hid ⟨HNX.out _ _ (parts_more (ps' := [([] : List UInt8) ++ TX]) hox rfl (parts_one hxe hxl hE8) ho8 hg8), hB8.grown hg8 hB8.size (fun r e => (hox.lt r e).1)⟩
      clear ho8 hg8 hox hxe hxl hE8 hRn hB8 hi1 hi2 hi3 hi4 hj1 hj2 hj3 hj4 hB7
      go_wp2_with fail
      go_roundw
      case rel => exact ⟨k + 1, by omega, by go_num, HN⟩
      case measure => simp [intOf]; omega
    · obtain rfl : k = ks.length := by omega
      obtain ⟨wo, hwo⟩ : ∃ wo : World, wo = wr := ⟨_, rfl⟩
      subst hwo
      have hall : (writeL numT ks).take ks.length = writeL numT ks := List.take_of_length_le (by rw [writeL_len]; exact Nat.le_refl _)
      rw [hall] at HP
      generalize hPS : [f.data.toList, quoteF t, quoteF u] ++ writeL numT ks = PS at *
      obtain ⟨ao, ca, hao⟩ := HP.out.1.slice
      subst hao
      have HPL : Hid (PS.length ≤ ks.length + 3) := Lib.hid (by rw [← hPS, List.length_append, writeL_len]; simp only [List.length_cons, List.length_nil]; omega)
      have HPS := Lib.hid hPS
      clear hall hPS HKS
      obtain ⟨hi1, hi2, hi3, hi4⟩ := HI.out
      have HJ0 : Hid (Jn W1.heap.size wo w (wordF 6) (.slice ab (wordF 6).length cb) wo) := Lib.hid ⟨HB.out.below HP.out.2 (Nat.le_refl _), fun g e => .inl (HBl.out g e), HWr.out, fun g _ _ => rfl, Nat.le_refl _, HWr.out.size⟩
      have HJ1 := Lib.hid (HJ0.out.alloc (.cells #[.int .u8 40] 5))
      have hpl := HPL.out
      have hlen0 := HLEN.out
      unfold maxW at hlen0
      rw [List.length_append, show ([40] : List UInt8).length = 1 from rfl] at hlen0
      go_wp2_with (at_builtin; refine wpList_appendX _ rfl (.tmp 119) (.tmp 120) 43 rfl w.heap.size 5 i0 (.int .u8 0) 1 1 Tryd.underlying43 hi1 hi2 hi3 hi4 rfl (by decide) _ _ _ rfl HJ1.out.own _ _ 1 1 [.int .u8 40] rfl (reads_new wo 5 [.int .u8 40] 1 rfl) (by intro y hy; simp only [List.mem_cons, List.not_mem_nil, or_false] at hy; subst hy; rfl) (by unfold maxLen; omega) (by omega) HJ1.out.base ?_)
      intro vb w3 ho3 hg3 hv3
      have HJ2 : Hid (Jn W1.heap.size wo w (wordF 6 ++ [40] ++ joinF [44, 32] (PS.take 0)) vb w3) := Lib.hid (by rw [List.take_zero, joinF, List.append_nil]; exact HJ1.out.app (p := [40]) ho3 hg3 (hv3.imp (fun h => h) (fun h => by rw [h]; simp)))
      clear ho3 hg3 hv3 HJ0 HJ1 q9 hi1 hi2 hi3 hi4
      have hpm : PS.length ≤ 9223372036854775807 := by omega
      go_wp2_with fail
      go_loopw [3, 7] (fun v i wz => ∃ j : Nat, j ≤ PS.length ∧ i = .int .i64 j ∧ Hid (Jn W1.heap.size wo w (wordF 6 ++ [40] ++ joinF [44, 32] (PS.take j)) v wz)) (fun _ i _ => PS.length - (intOf i).toNat)
      case atStart => exact ⟨0, by omega, rfl, HJ2⟩
      case round =>
        clear HJ2
        obtain ⟨j, hj, rfl, HN⟩ := hrel
        obtain ⟨ab3, cb3, hab3⟩ := HN.out.own.slice
        subst hab3
        obtain ⟨hi1, hi2, hi3, hi4⟩ := HI.out
        by_cases hjl : j < PS.length
        · have hjl2 : (j : Int) < (PS.length : Int) := by omega
          obtain ⟨g4, x4, B4, m4, hA4, _, hc4, hr4⟩ := parts_at HP.out.1 HN.out hjl
          subst hA4
          have HJT := Lib.hid (join_take hjl)
          have hle := join_le PS (j + 1)
          generalize hpj : PS[j] = pj at *
          have HPJ := Lib.hid hpj
          clear hpj
          by_cases h0 : j = 0
          · have d0 : decide (0 < j) = false := decide_eq_false (by omega)
            have HE : Hid (wordF 6 ++ [40] ++ joinF [44, 32] (PS.take (j + 1)) = (wordF 6 ++ [40] ++ joinF [44, 32] (PS.take j)) ++ pj) := Lib.hid (by rw [HJT.out, if_pos h0, h0]; simp [joinF])
            have hlx : (wordF 6 ++ [40] ++ joinF [44, 32] (PS.take j)).length + pj.length + 100 ≤ 140737488355328 := by
              have h2 := congrArg List.length HE.out
              rw [List.length_append, List.length_append, List.length_append (bs := pj), show ([40] : List UInt8).length = 1 from rfl] at h2
              omega
            clear HJT h0 hle
            generalize wordF 6 ++ [40] ++ joinF [44, 32] (PS.take j) = LJ at *
            go_wp2_with (at_builtin; refine wpList_appendX _ rfl (.tmp 133) (.tmp 137) 43 rfl w.heap.size 5 i0 (.int .u8 0) 1 1 Tryd.underlying43 hi1 hi2 hi3 hi4 rfl (by decide) _ _ _ rfl HN.out.own _ x4 pj.length m4 _ rfl hr4 cells_one (by unfold maxLen; omega) (by omega) HN.out.base ?_)
            intro v5 w5 ho5 hg5 hv5
            have HN5 : Hid (Jn W1.heap.size wo w (wordF 6 ++ [40] ++ joinF [44, 32] (PS.take (j + 1))) v5 w5) := Lib.hid (by rw [HE.out]; exact HN.out.app ho5 hg5 hv5)
            clear ho5 hg5 hv5 hc4 hr4 hi1 hi2 hi3 hi4
            go_wp2_with fail
            go_roundw
            case rel => exact ⟨j + 1, by omega, by go_num, HN5⟩
            case measure => simp [intOf]; omega
          · have d0 : decide (0 < j) = true := decide_eq_true (by omega)
            have HE : Hid (wordF 6 ++ [40] ++ joinF [44, 32] (PS.take (j + 1)) = ((wordF 6 ++ [40] ++ joinF [44, 32] (PS.take j)) ++ [44, 32]) ++ pj) := Lib.hid (by rw [HJT.out, if_neg h0]; simp)
            have hlx : (wordF 6 ++ [40] ++ joinF [44, 32] (PS.take j)).length + 2 + pj.length + 100 ≤ 140737488355328 := by
              have h2 := congrArg List.length HE.out
              rw [List.length_append, List.length_append, List.length_append (bs := pj), List.length_append (bs := [44, 32]), show ([40] : List UInt8).length = 1 from rfl, show ([44, 32] : List UInt8).length = 2 from rfl] at h2
              omega
            clear HJT h0 hle
            generalize wordF 6 ++ [40] ++ joinF [44, 32] (PS.take j) = LJ at *
            have HNa := Lib.hid (HN.out.alloc (.cells #[.int .u8 44, .int .u8 32] 5))
            clear hc4 hr4
            go_wp2_with (at_builtin; refine wpList_appendX _ rfl (.tmp 130) (.tmp 131) 43 rfl w.heap.size 5 i0 (.int .u8 0) 1 1 Tryd.underlying43 hi1 hi2 hi3 hi4 rfl (by decide) _ _ _ rfl HNa.out.own _ _ 2 2 [.int .u8 44, .int .u8 32] rfl (reads_new wr 5 [.int .u8 44, .int .u8 32] 2 rfl) (by intro y hy; simp only [List.mem_cons, List.not_mem_nil, or_false] at hy; rcases hy with rfl | rfl <;> rfl) (by unfold maxLen; omega) (by omega) HNa.out.base ?_)
            intro v4' w4 ho4 hg4 hv4
            have HN4 : Hid (Jn W1.heap.size wo w (LJ ++ [44, 32]) v4' w4) := Lib.hid (HNa.out.app (p := [44, 32]) ho4 hg4 (hv4.imp (fun h => h) (fun h => by rw [h]; simp)))
            clear ho4 hg4 hv4 HNa
            obtain ⟨ab4, cb4, hab4⟩ := HN4.out.own.slice
            subst hab4
            obtain ⟨g5, x5, B5, m5, hA5, _, hc5, hr5⟩ := parts_at HP.out.1 HN4.out hjl
            injection hA5 with hA5
            injection hA5 with hA5
            subst hA5
            rw [HPJ.out] at hc5 hr5
            have hlx2 : (LJ ++ [44, 32]).length + pj.length + 100 ≤ 140737488355328 := by rw [List.length_append, show ([44, 32] : List UInt8).length = 2 from rfl]; omega
            generalize LJ ++ [44, 32] = LJ2 at *
            go_wp2_with (at_builtin; refine wpList_appendX _ rfl (.tmp 133) (.tmp 137) 43 rfl w.heap.size 5 i0 (.int .u8 0) 1 1 Tryd.underlying43 hi1 hi2 hi3 hi4 rfl (by decide) _ _ _ rfl HN4.out.own _ x5 pj.length m5 _ rfl hr5 cells_one (by unfold maxLen; omega) (by omega) HN4.out.base ?_)
            intro v5 w5 ho5 hg5 hv5
            have HN5 : Hid (Jn W1.heap.size wo w (wordF 6 ++ [40] ++ joinF [44, 32] (PS.take (j + 1))) v5 w5) := Lib.hid (by rw [HE.out]; exact HN4.out.app ho5 hg5 hv5)
            clear ho5 hg5 hv5 hc5 hr5 hi1 hi2 hi3 hi4
            go_wp2_with fail
            go_roundw
            case rel => exact ⟨j + 1, by omega, by go_num, HN5⟩
            case measure => simp [intOf]; omega
        · obtain rfl : j = PS.length := by omega
          have hle : (wordF 6 ++ [40] ++ joinF [44, 32] (PS.take PS.length)).length + 100 ≤ 140737488355328 := by
            rw [List.take_length, List.length_append, List.length_append, show ([40] : List UInt8).length = 1 from rfl]
            omega
          have HE : Hid (writeF numT (.mk 6 oc f t u lo hi bo op ks) = (wordF 6 ++ [40] ++ joinF [44, 32] (PS.take PS.length)) ++ [41]) := Lib.hid (by rw [HWF.out, List.take_length]; simp)
          have HNa := Lib.hid (HN.out.alloc (.cells #[.int .u8 41] 5))
          generalize wordF 6 ++ [40] ++ joinF [44, 32] (PS.take PS.length) = LJ at *
          go_wp2_with (at_builtin; refine wpList_appendX _ rfl (.tmp 139) (.tmp 140) 43 rfl w.heap.size 5 i0 (.int .u8 0) 1 1 Tryd.underlying43 hi1 hi2 hi3 hi4 rfl (by decide) _ _ _ rfl HNa.out.own _ _ 1 1 [.int .u8 41] rfl (reads_new wr 5 [.int .u8 41] 1 rfl) (by intro y hy; simp only [List.mem_cons, List.not_mem_nil, or_false] at hy; subst hy; rfl) (by unfold maxLen; omega) (by omega) HNa.out.base ?_)
          intro v5 w5 ho5 hg5 hv5
          have HN5 : Hid (Jn W1.heap.size wo w (LJ ++ [41]) v5 w5) := Lib.hid (HNa.out.app (p := [41]) ho5 hg5 (hv5.imp (fun h => h) (fun h => by rw [h]; simp)))
          clear ho5 hg5 hv5 hi1 hi2 hi3 hi4 HNa
          go_wp2_with fail
          go_ret
          exact ⟨_, rfl, by rw [HE.out]; exact HN5.out.own, HN5.out.below⟩
set_option maxRecDepth 100000 in
set_option maxHeartbeats 16000000 in
theorem rwrite_7 (h : RAsk 7 oc f t u lo hi bo op ks L Hh Kd ck w) :
    Calls Tryd.prog 28 #[.agg #[.int .i64 7, .int .i64 oc, .string f, .string t, .string u, .slice L lo.length cl, .slice Hh hi.length ch, .int .i64 bo, .int .i64 op, .slice Kd ks.length ck]] w (RowBX (writeF numT (.mk 7 oc f t u lo hi bo op ks)) w) := by
  have HA := Lib.hid h
  obtain ⟨i0, hi1, hi2, hi3, hi4⟩ := info_parts infoU8
  obtain ⟨j0, hj1, hj2, hj3, hj4⟩ := info_parts infoS8
  have HI := Lib.hid (And.intro hi1 (And.intro hi2 (And.intro hi3 hi4)))
  have HJ := Lib.hid (And.intro hj1 (And.intro hj2 (And.intro hj3 hj4)))
  clear hi1 hi2 hi3 hi4 hj1 hj2 hj3 hj4
  have HOK : Hid (f.size ≤ 140737488351232 ∧ t.size ≤ 140737488351232 ∧ u.size ≤ 140737488351232 ∧ (lo.length * 8 ≤ 140737488351232 ∧ ∀ z ∈ lo, I64 z) ∧ (hi.length * 8 ≤ 140737488351232 ∧ ∀ z ∈ hi, I64 z) ∧ I64 bo ∧ ks.length * 152 ≤ 140737488351232) := Lib.hid (by
    cases h.ok with
    | mk _ _ a1 a2 a3 a4 a5 a6 _ a7 _ => exact ⟨a1, a2, a3, a4, a5, a6, a7⟩)
  have hW : writeF numT (.mk 7 oc f t u lo hi bo op ks) = wordF 7 ++ 40 :: (joinF [44, 32] ([f.data.toList, numsF numT lo, numsF numT hi] ++ writeL numT ks) ++ [41]) := by
    rw [writeF, if_neg (by decide)]; rfl
  have HWF := Lib.hid hW
  have HLEN : Hid ((wordF 7 ++ [40]).length + (joinF [44, 32] ([f.data.toList, numsF numT lo, numsF numT hi] ++ writeL numT ks)).length + 401 ≤ maxW) := Lib.hid (by
    have := h.len
    rw [hW] at this
    simp only [List.length_append, List.length_cons, List.length_nil] at *
    omega)
  clear hW
  clear h
  go_enter Tryd.func28, Tryd.ntmps28
  go_upto_region 1 with fail
  have HQ0 := Lib.hid (Blk.new w 25 #[.int .i64 7, .int .i64 oc, .string f, .string t, .string u, .slice L lo.length cl, .slice Hh hi.length ch, .int .i64 bo, .int .i64 op, .slice Kd ks.length ck])
  have HW0 := Lib.hid ((Below.refl _ w).alloc (Nat.le_refl _) (.cells #[.int .i64 7, .int .i64 oc, .string f, .string t, .string u, .slice L lo.length cl, .slice Hh hi.length ch, .int .i64 bo, .int .i64 op, .slice Kd ks.length ck] 25))
  have hz0 : (w.alloc (.cells #[.int .i64 7, .int .i64 oc, .string f, .string t, .string u, .slice L lo.length cl, .slice Hh hi.length ch, .int .i64 bo, .int .i64 op, .slice Kd ks.length ck] 25)).heap.size = w.heap.size + 1 := by simp
  generalize (w.alloc (.cells #[.int .i64 7, .int .i64 oc, .string f, .string t, .string u, .slice L lo.length cl, .slice Hh hi.length ch, .int .i64 bo, .int .i64 op, .slice Kd ks.length ck] 25)) = W0 at *
  refine wp_region_held_drew (S := fun V => Below W0.heap.size W0 V) (by kernel_rfl) (Below.refl _ W0).drew (fun hSd0 => ?_)
  refine' wpAnyH_take (i := 1) (v := _) (by simp only [List.getElem?_toArray, List.getElem?_cons_succ, List.getElem?_cons_zero]; rfl) (by kernel_rfl) (by kernel_rfl) (by kernel_rfl) (by exact fun _ _ _ h => h) (Or.inl ⟨by rfl, ?hyd1⟩) hSd0 ?restd1
  case hyd1 => intro V hSw; clear hSw; go_simp; try with_reducible rfl
  try simp only [Act.put, List.setIfInBounds_toArray, List.set_cons_zero, List.set_cons_succ]
  refine' wpAnyH_take (i := 2) (v := _) (by simp only [List.getElem?_toArray, List.getElem?_cons_succ, List.getElem?_cons_zero]; rfl) (by kernel_rfl) (by kernel_rfl) (by kernel_rfl) (by exact fun _ _ _ h => h) (Or.inl ⟨by rfl, ?hyd2⟩) hSd0 ?restd2
  case hyd2 => intro V hSw; have fq := (HQ0.out.below hSw HQ0.out.lt).cell 0; clear hSw; go_simp; try with_reducible rfl
  try simp only [Act.put, List.setIfInBounds_toArray, List.set_cons_zero, List.set_cons_succ]
  refine wpAnyH_ready (rs := [0]) (by kernel_rfl) (by simp) ?_
  refine' AllReadyH.cons (by simp only [List.getElem?_toArray, List.getElem?_cons_zero]; rfl) (fun KC hK => ?_) AllReadyH.nil
  go_simp
  refine (rwords_any _).mono ?_
  rintro e V1 ⟨rfl, hb, hc⟩
  have hc : V1.cell? ⟨w.heap.size + 1, 7, none⟩ = some (.string (str (wordF 7))) := by rw [← hz0]; exact hc 7 (by decide) (by decide)
  have hs1 : Below W0.heap.size W0 V1 := hSd0.trans (hb.mono hSd0.size)
  clear hb
  go_simp
  refine hK.out _ _ hs1 (fun hSd1 => ?_)
  clear hK hs1
  try simp only [Act.put, List.setIfInBounds_toArray, List.set_cons_zero, List.set_cons_succ]
  refine' wpAnyH_take (i := 3) (v := _) (by simp only [List.getElem?_toArray, List.getElem?_cons_succ, List.getElem?_cons_zero]; rfl) (by kernel_rfl) (by kernel_rfl) (by kernel_rfl) (by exact fun _ _ _ h => h) (Or.inl ⟨by rfl, ?hyd3⟩) hSd1 ?restd3
  case hyd3 => intro V hSw; clear hSw; go_simp; try with_reducible rfl
  try simp only [Act.put, List.setIfInBounds_toArray, List.set_cons_zero, List.set_cons_succ]
  refine wpAnyH_ready (rs := [4]) (by kernel_rfl) (by simp) ?_
  refine' AllReadyH.cons (by simp only [List.getElem?_toArray, List.getElem?_cons_succ, List.getElem?_cons_zero]; rfl) (fun KC hK => ?_) AllReadyH.nil
  go_simp
  refine hK.out _ _ hSd1 (fun hSd2 => ?_)
  clear hK
  try simp only [Act.put, List.setIfInBounds_toArray, List.set_cons_zero, List.set_cons_succ]
  refine wpAnyH_ready (rs := [5]) (by kernel_rfl) (by simp) ?_
  refine' AllReadyH.cons (by simp only [List.getElem?_toArray, List.getElem?_cons_succ, List.getElem?_cons_zero]; rfl) (fun KC hK => ?_) AllReadyH.nil
  have hcv := Lib.run_convert_string_bytes (P := Tryd.prog) V1 9 43 5 (str (wordF 7)) (u := .string) Tryd.underlying9 Tryd.underlying43 Tryd.underlying5
  have hox := ownX_bytes V1 w.heap.size 5 (str (wordF 7)) (by have := hSd1.size; omega) (by decide)
  have hbb := below_bytes V1 5 (str (wordF 7))
  generalize Lib.bytesWorld V1 5 (str (wordF 7)) = W1 at *
  go_simp
  have hs1 : Below W0.heap.size W0 W1 := hSd1.trans (hbb.mono hSd1.size)
  refine hK.out _ _ hs1 (fun hSd3 => ?_)
  clear hK
  try simp only [Act.put, List.setIfInBounds_toArray, List.set_cons_zero, List.set_cons_succ]
  refine' wpAnyH_take (i := 6) (v := _) (by simp only [List.getElem?_toArray, List.getElem?_cons_succ, List.getElem?_cons_zero]; rfl) (by kernel_rfl) (by kernel_rfl) (by kernel_rfl) (by exact fun _ _ _ h => h) (Or.inl ⟨by rfl, ?hyd6⟩) hSd3 ?restd6
  case hyd6 => intro V hSw; clear hSw; go_simp; try with_reducible rfl
  try simp only [Act.put, List.setIfInBounds_toArray, List.set_cons_zero, List.set_cons_succ]
  refine wpAnyH_done (by kernel_rfl) ?_ _
  obtain ⟨ab, cb, hab⟩ := hox.slice
  have HB : Hid (OwnX W1 w.heap.size 5 1 (.slice ab (wordF 7).length cb) (wordF 7).length (Lib.byteCells (wordF 7))) := Lib.hid (by rw [hab] at hox; exact hox)
  rw [hab]
  have HBl : Hid (∀ g, (Value.slice ab (wordF 7).length cb).ownBlock = some g → g < W1.heap.size) := Lib.hid (fun g hg => (HB.out.lt g hg).2)
  clear hSd0 hSd1 hSd2 hSd3 hcv hab hox hbb hc
  have HQ1 := Lib.hid (HQ0.out.below hs1 HQ0.out.lt)
  have HW1 := Lib.hid (HW0.out.trans (hs1.mono HW0.out.size))
  have hz1 : w.heap.size + 1 ≤ W1.heap.size := HQ1.out.lt
  clear hs1 hz0
  obtain ⟨c0, c1, c2, c3, c4, c5, c6, c7, c8, c9⟩ := tenB HQ1.out
  have HLq1 : Hid ((numsF numT lo).length + 10 ≤ 140737488355328) := Lib.hid (by have := part_le (ps := [f.data.toList]) (x := numsF numT lo) (rest := [numsF numT hi] ++ writeL numT ks) (all := [f.data.toList, numsF numT lo, numsF numT hi] ++ writeL numT ks) rfl; have := HLEN.out; unfold maxW at this; omega)
  have HLq2 : Hid ((numsF numT hi).length + 10 ≤ 140737488355328) := Lib.hid (by have := part_le (ps := [f.data.toList, numsF numT lo]) (x := numsF numT hi) (rest := [] ++ writeL numT ks) (all := [f.data.toList, numsF numT lo, numsF numT hi] ++ writeL numT ks) rfl; have := HLEN.out; unfold maxW at this; omega)
  go_upto_region 13 with fail
  clear c0 c1 c2 c3 c4 c5 c6 c7 c8 c9
  refine wp_mono (Q := fun ex a' V => ex = .normal ∧ ∃ x0 x1 x2  Ab v', Parts W1.heap.size V v' [f.data.toList, numsF numT lo, numsF numT hi] ∧ Below W1.heap.size W1 V ∧ a' = { tmps := #[Value.agg #[Value.int IntKind.i64 7, Value.int IntKind.i64 oc, Value.string f, Value.string t, Value.string u, Value.slice L lo.length cl, Value.slice Hh hi.length ch, Value.int IntKind.i64 bo, Value.int IntKind.i64 op, Value.slice Kd ks.length ck], Value.pointer (some { block := w.heap.size, off := 0 }), Value.slice none 0 0, Value.slice ab (str (wordF 7)).size cb, v', undef, undef, undef, Value.slice (some { block := w.heap.size + 1, off := 0 }) 11 11, Value.pointer (some { block := w.heap.size, off := 0 }), Value.int IntKind.i64 7, Value.pointer (some { block := w.heap.size + 1, off := 7 }), Value.string (str (wordF 7)), Value.slice ab (str (wordF 7)).size cb, Value.pointer (some { block := w.heap.size, off := 0 }), Value.int IntKind.i64 7, Value.bool false, undef, Value.pointer (some { block := w.heap.size, off := 0 }), Value.int IntKind.i64 7, Value.bool false, Value.bool false, Value.bool false, Value.bool false, undef, undef, undef, undef, undef, undef, undef, undef, undef, Value.bool false, Value.bool false, undef, undef, undef, undef, undef, undef, undef, undef, undef, undef, undef, undef, Value.bool true, Value.bool true, Value.slice none 0 0, Value.pointer (some { block := w.heap.size, off := 2 }), Value.string f, x0, Value.pointer (some { block := w.heap.size, off := 5 }), Value.slice L lo.length cl, x1, Value.pointer (some { block := w.heap.size, off := 6 }), Value.slice Hh hi.length ch, x2, Value.slice Ab 3 3, v', undef, undef, undef, undef, undef, undef, undef, undef, undef, undef, undef, undef, undef, undef, undef, undef, undef, undef, undef, undef, undef, undef, undef, undef, undef, undef, undef, undef, undef, undef, undef, undef, undef, undef, undef, undef, undef, undef, undef, undef, undef, undef, undef, undef, undef, undef, undef, undef, undef, undef, undef, undef, undef, undef, undef, undef, undef, undef, undef, undef, undef, undef, undef, undef, undef, undef, undef, undef, undef, undef, undef, undef, undef, undef, undef, undef, undef, undef, undef, undef, undef], defers := [] }) ?region ?rest
  case region =>
    obtain ⟨hj1, hj2, hj3, hj4⟩ := HJ.out
    refine wp_region_held_drew (S := fun V => Below W1.heap.size W1 V) (by kernel_rfl) (Below.refl _ W1).drew (fun hS0 => ?_)
    generalize W1.drew = V0 at hS0 ⊢
    refine' wpAnyH_take (i := 0) (v := _) (by simp only [List.getElem?_toArray, List.getElem?_cons_zero]; rfl) (by kernel_rfl) (by kernel_rfl) (by kernel_rfl) (by rintro _ _ _ ⟨h, _⟩; cases h) (Or.inl ⟨by rfl, ?hm0_1⟩) hS0 ?rm0_1
    case hm0_1 => intro V hSw; clear hSw; go_simp; try with_reducible rfl
    try simp only [Act.put, List.setIfInBounds_toArray, List.set_cons_zero, List.set_cons_succ]
    refine' wpAnyH_take (i := 1) (v := _) (by simp only [List.getElem?_toArray, List.getElem?_cons_succ, List.getElem?_cons_zero]; rfl) (by kernel_rfl) (by kernel_rfl) (by kernel_rfl) (by rintro _ _ _ ⟨h, _⟩; cases h) (Or.inl ⟨by rfl, ?hm1_2⟩) hS0 ?rm1_2
    case hm1_2 => intro V hSw; clear hSw; go_simp; try with_reducible rfl
    try simp only [Act.put, List.setIfInBounds_toArray, List.set_cons_zero, List.set_cons_succ]
    refine' wpAnyH_take (i := 2) (v := _) (by simp only [List.getElem?_toArray, List.getElem?_cons_succ, List.getElem?_cons_zero]; rfl) (by kernel_rfl) (by kernel_rfl) (by kernel_rfl) (by rintro _ _ _ ⟨h, _⟩; cases h) (Or.inl ⟨by rfl, ?hm2_3⟩) hS0 ?rm2_3
    case hm2_3 => intro V hSw; have fq := (HQ1.out.below hSw HQ1.out.lt).cell 2; clear hSw; go_simp; try with_reducible rfl
    try simp only [Act.put, List.setIfInBounds_toArray, List.set_cons_zero, List.set_cons_succ]
    refine' wpAnyH_take (i := 4) (v := _) (by simp only [List.getElem?_toArray, List.getElem?_cons_succ, List.getElem?_cons_zero]; rfl) (by kernel_rfl) (by kernel_rfl) (by kernel_rfl) (by rintro _ _ _ ⟨h, _⟩; cases h) (Or.inl ⟨by rfl, ?hm4_4⟩) hS0 ?rm4_4
    case hm4_4 => intro V hSw; clear hSw; go_simp; try with_reducible rfl
    try simp only [Act.put, List.setIfInBounds_toArray, List.set_cons_zero, List.set_cons_succ]
    refine' wpAnyH_take (i := 5) (v := _) (by simp only [List.getElem?_toArray, List.getElem?_cons_succ, List.getElem?_cons_zero]; rfl) (by kernel_rfl) (by kernel_rfl) (by kernel_rfl) (by rintro _ _ _ ⟨h, _⟩; cases h) (Or.inl ⟨by rfl, ?hm5_5⟩) hS0 ?rm5_5
    case hm5_5 => intro V hSw; have fq := (HQ1.out.below hSw HQ1.out.lt).cell 5; clear hSw; go_simp; try with_reducible rfl
    try simp only [Act.put, List.setIfInBounds_toArray, List.set_cons_zero, List.set_cons_succ]
    refine' wpAnyH_take (i := 7) (v := _) (by simp only [List.getElem?_toArray, List.getElem?_cons_succ, List.getElem?_cons_zero]; rfl) (by kernel_rfl) (by kernel_rfl) (by kernel_rfl) (by rintro _ _ _ ⟨h, _⟩; cases h) (Or.inl ⟨by rfl, ?hm7_6⟩) hS0 ?rm7_6
    case hm7_6 => intro V hSw; clear hSw; go_simp; try with_reducible rfl
    try simp only [Act.put, List.setIfInBounds_toArray, List.set_cons_zero, List.set_cons_succ]
    refine' wpAnyH_take (i := 8) (v := _) (by simp only [List.getElem?_toArray, List.getElem?_cons_succ, List.getElem?_cons_zero]; rfl) (by kernel_rfl) (by kernel_rfl) (by kernel_rfl) (by rintro _ _ _ ⟨h, _⟩; cases h) (Or.inl ⟨by rfl, ?hm8_7⟩) hS0 ?rm8_7
    case hm8_7 => intro V hSw; have fq := (HQ1.out.below hSw HQ1.out.lt).cell 6; clear hSw; go_simp; try with_reducible rfl
    try simp only [Act.put, List.setIfInBounds_toArray, List.set_cons_zero, List.set_cons_succ]
    refine wpAnyH_ready (rs := [3, 6]) (by kernel_rfl) (by simp) ?_
    refine' AllReadyH.cons (by simp only [List.getElem?_toArray, List.getElem?_cons_succ, List.getElem?_cons_zero]; rfl) (fun K hK => ?_) ?_
    · skip
      have hcv := Lib.run_convert_string_bytes (P := Tryd.prog) V0 9 43 5 f (u := .string) Tryd.underlying9 Tryd.underlying43 Tryd.underlying5
      have hox := ownX_bytes V0 W1.heap.size 5 f hS0.size (by have := HOK.out.1; unfold maxLen; omega)
      have hbb := below_bytes V0 5 f
      generalize Lib.bytesWorld V0 5 f = V1 at *
      generalize hxv : Value.slice (some ⟨V0.heap.size, 0, none⟩) f.size (grownCap V0 f.size 0 5) = x0 at *
      clear hxv
      go_simp
      have hE0 : Elt V1 W1.heap.size V1.heap.size x0 (f.data.toList) := Elt.ofX hox (Nat.le_refl _)
      have hS1 : Below W1.heap.size W1 V1 := hS0.trans (hbb.mono hS0.size)
      refine hK.out _ _ hS1 (fun hT => ?_)
      clear hK hcv hox hT
      try simp only [Act.put, List.setIfInBounds_toArray, List.set_cons_zero, List.set_cons_succ]
      clear hbb
      refine wpAnyH_ready (rs := [6]) (by kernel_rfl) (by simp) ?_
      refine' AllReadyH.cons (by simp only [List.getElem?_toArray, List.getElem?_cons_succ, List.getElem?_cons_zero]; rfl) (fun K hK => ?_) ?_
      · skip
        go_simp
        refine (rnums_any _ _ lo _ ((HA.out.low.below (HW1.out.trans (hS1.mono HW1.out.size))).more (Nat.le_trans HW1.out.size hS1.size)) HOK.out.2.2.2.1.2 (by have := HOK.out.2.2.2.1.1; omega) HLq1.out).mono ?_
        rintro e V2 ⟨x1, rfl, ho, hb⟩
        have hE1 : Elt V2 W1.heap.size V2.heap.size x1 (numsF numT lo) := Elt.ofX (OwnX.of ho) hS1.size
        have hS2 : Below W1.heap.size W1 V2 := hS1.trans (hb.mono hS1.size)
        replace hE0 := hE0.below hb (Nat.le_refl _)
        clear ho hb
        go_simp
        refine hK.out _ _ hS2 (fun hT => ?_)
        clear hK hT
        try simp only [Act.put, List.setIfInBounds_toArray, List.set_cons_zero, List.set_cons_succ]
        refine wpAnyH_ready (rs := [9]) (by kernel_rfl) (by simp) ?_
        refine' AllReadyH.cons (by simp only [List.getElem?_toArray, List.getElem?_cons_succ, List.getElem?_cons_zero]; rfl) (fun K hK => ?_) ?_
        · skip
          go_simp
          refine (rnums_any _ _ hi _ ((HA.out.high.below (HW1.out.trans (hS2.mono HW1.out.size))).more (Nat.le_trans HW1.out.size hS2.size)) HOK.out.2.2.2.2.1.2 (by have := HOK.out.2.2.2.2.1.1; omega) HLq2.out).mono ?_
          rintro e V3 ⟨x2, rfl, ho, hb⟩
          have hE2 : Elt V3 W1.heap.size V3.heap.size x2 (numsF numT hi) := Elt.ofX (OwnX.of ho) hS2.size
          have hS3 : Below W1.heap.size W1 V3 := hS2.trans (hb.mono hS2.size)
          replace hE0 := hE0.below hb (Nat.le_refl _)
          replace hE1 := hE1.below hb (Nat.le_refl _)
          clear ho hb
          go_simp
          refine hK.out _ _ hS3 (fun hT => ?_)
          clear hK hT
          try simp only [Act.put, List.setIfInBounds_toArray, List.set_cons_zero, List.set_cons_succ]
          obtain ⟨A0, C0, hx⟩ := hE0.slice
          replace hx : x0 = .slice A0 f.size C0 := hx
          subst hx
          obtain ⟨A1, C1, hx⟩ := hE1.slice
          replace hx : x1 = .slice A1 (numsF numT lo).length C1 := hx
          subst hx
          obtain ⟨A2, C2, hx⟩ := hE2.slice
          replace hx : x2 = .slice A2 (numsF numT hi).length C2 := hx
          subst hx
          refine wpAnyH_ready (rs := [10]) (by kernel_rfl) (by simp) ?_
          refine' AllReadyH.cons (by simp only [List.getElem?_toArray, List.getElem?_cons_succ, List.getElem?_cons_zero]; rfl) (fun K hK => ?_) AllReadyH.nil
          have hRn := reads_new V3 43 [.slice A0 f.size C0, .slice A1 (numsF numT lo).length C1, .slice A2 (numsF numT hi).length C2] 3 rfl
          go_simp
          replace hE0 := hE0.below ((Below.refl _ V3).alloc (Nat.le_refl _) (.cells #[.slice A0 f.size C0, .slice A1 (numsF numT lo).length C1, .slice A2 (numsF numT hi).length C2] 43)) (Nat.le_refl _)
          replace hE1 := hE1.below ((Below.refl _ V3).alloc (Nat.le_refl _) (.cells #[.slice A0 f.size C0, .slice A1 (numsF numT lo).length C1, .slice A2 (numsF numT hi).length C2] 43)) (Nat.le_refl _)
          replace hE2 := hE2.below ((Below.refl _ V3).alloc (Nat.le_refl _) (.cells #[.slice A0 f.size C0, .slice A1 (numsF numT lo).length C1, .slice A2 (numsF numT hi).length C2] 43)) (Nat.le_refl _)
          have hS4 := Below.alloc hS3 hS3.size (.cells #[.slice A0 f.size C0, .slice A1 (numsF numT lo).length C1, .slice A2 (numsF numT hi).length C2] 43)
          generalize hAb : (some ⟨V3.heap.size, 0, none⟩ : Option Addr) = Ab at *
          clear hAb
          generalize V3.alloc (.cells #[.slice A0 f.size C0, .slice A1 (numsF numT lo).length C1, .slice A2 (numsF numT hi).length C2] 43) = V4 at *
          refine hK.out _ _ hS4 (fun hT => ?_)
          clear hK
          try simp only [Act.put, List.setIfInBounds_toArray, List.set_cons_zero, List.set_cons_succ]
          refine wpAnyH_ready (rs := [11]) (by kernel_rfl) (by simp) ?_
          refine' AllReadyH.cons (by simp only [List.getElem?_toArray, List.getElem?_cons_succ, List.getElem?_cons_zero]; rfl) (fun K hK => ?_) AllReadyH.nil
          refine step_append_any _ rfl (.tmp 49) (.tmp 59) 74 rfl W1.heap.size 43 j0 (.slice none 0 0) 1 24 Tryd.underlying74 hj1 hj2 hj3 hj4 rfl (by decide) (.slice none 0 0) 0 [] rfl (World.ownsRow_nil _ _ _ _) _ Ab 3 3 [.slice A0 f.size C0, .slice A1 (numsF numT lo).length C1, .slice A2 (numsF numT hi).length C2] rfl hRn (by intro y hy; simp only [List.mem_cons, List.not_mem_nil, or_false] at hy; rcases hy with rfl | rfl | rfl; exact hE0.one; exact hE1.one; exact hE2.one) (by decide) (by decide) hS4.size ?_
          intro v' w' ho hg _
          have hP : Parts W1.heap.size w' v' [f.data.toList, numsF numT lo, numsF numT hi] := parts_more (ps := []) (ps' := [f.data.toList, numsF numT lo, numsF numT hi]) (World.ownsRow_nil _ _ _ _) rfl (parts_one (xs := [.slice A0 f.size C0, .slice A1 (numsF numT lo).length C1]) (ps := [f.data.toList, numsF numT lo]) (parts_one (xs := [.slice A0 f.size C0]) (ps := [f.data.toList]) (parts_one (xs := []) (ps := []) (fun i x p h => by simp at h) rfl hE0) rfl hE1) rfl hE2) ho hg
          have hSe : Below W1.heap.size W1 w' := hS4.grown hg hS4.size (fun r e => by cases e)
          refine hK.out _ _ hSe (fun hT => ?_)
          clear hK
          try simp only [Act.put, List.setIfInBounds_toArray, List.set_cons_zero, List.set_cons_succ]
          refine' wpAnyH_take (i := 12) (v := _) (by simp only [List.getElem?_toArray, List.getElem?_cons_succ, List.getElem?_cons_zero]; rfl) (by kernel_rfl) (by kernel_rfl) (by kernel_rfl) (by rintro _ _ _ ⟨h, _⟩; cases h) (Or.inl ⟨by rfl, ?hm12_8⟩) hSe ?rm12_8
          case hm12_8 => intro V hSw; clear hSw; go_simp; try with_reducible rfl
          try simp only [Act.put, List.setIfInBounds_toArray, List.set_cons_zero, List.set_cons_succ]
          refine wpAnyH_done (by kernel_rfl) ?_ _
          exact ⟨rfl, .slice A0 f.size C0, .slice A1 (numsF numT lo).length C1, .slice A2 (numsF numT hi).length C2, Ab, v', hP, hSe, rfl⟩
        exact AllReadyH.nil
      exact AllReadyH.nil
    refine' AllReadyH.cons (by simp only [List.getElem?_toArray, List.getElem?_cons_succ, List.getElem?_cons_zero]; rfl) (fun K hK => ?_) ?_
    · skip
      go_simp
      refine (rnums_any _ _ lo _ ((HA.out.low.below (HW1.out.trans (hS0.mono HW1.out.size))).more (Nat.le_trans HW1.out.size hS0.size)) HOK.out.2.2.2.1.2 (by have := HOK.out.2.2.2.1.1; omega) HLq1.out).mono ?_
      rintro e V1 ⟨x1, rfl, ho, hb⟩
      have hE1 : Elt V1 W1.heap.size V1.heap.size x1 (numsF numT lo) := Elt.ofX (OwnX.of ho) hS0.size
      have hS1 : Below W1.heap.size W1 V1 := hS0.trans (hb.mono hS0.size)
      clear ho hb
      go_simp
      refine hK.out _ _ hS1 (fun hT => ?_)
      clear hK hT
      try simp only [Act.put, List.setIfInBounds_toArray, List.set_cons_zero, List.set_cons_succ]
      refine wpAnyH_ready (rs := [3, 9]) (by kernel_rfl) (by simp) ?_
      refine' AllReadyH.cons (by simp only [List.getElem?_toArray, List.getElem?_cons_succ, List.getElem?_cons_zero]; rfl) (fun K hK => ?_) ?_
      · skip
        have hcv := Lib.run_convert_string_bytes (P := Tryd.prog) V1 9 43 5 f (u := .string) Tryd.underlying9 Tryd.underlying43 Tryd.underlying5
        have hox := ownX_bytes V1 W1.heap.size 5 f hS1.size (by have := HOK.out.1; unfold maxLen; omega)
        have hbb := below_bytes V1 5 f
        generalize Lib.bytesWorld V1 5 f = V2 at *
        generalize hxv : Value.slice (some ⟨V1.heap.size, 0, none⟩) f.size (grownCap V1 f.size 0 5) = x0 at *
        clear hxv
        go_simp
        replace hE1 := hE1.below hbb (Nat.le_refl _)
        have hE0 : Elt V2 W1.heap.size V2.heap.size x0 (f.data.toList) := Elt.ofX hox (Nat.le_refl _)
        have hS2 : Below W1.heap.size W1 V2 := hS1.trans (hbb.mono hS1.size)
        refine hK.out _ _ hS2 (fun hT => ?_)
        clear hK hcv hox hT
        try simp only [Act.put, List.setIfInBounds_toArray, List.set_cons_zero, List.set_cons_succ]
        clear hbb
        refine wpAnyH_ready (rs := [9]) (by kernel_rfl) (by simp) ?_
        refine' AllReadyH.cons (by simp only [List.getElem?_toArray, List.getElem?_cons_succ, List.getElem?_cons_zero]; rfl) (fun K hK => ?_) ?_
        · skip
          go_simp
          refine (rnums_any _ _ hi _ ((HA.out.high.below (HW1.out.trans (hS2.mono HW1.out.size))).more (Nat.le_trans HW1.out.size hS2.size)) HOK.out.2.2.2.2.1.2 (by have := HOK.out.2.2.2.2.1.1; omega) HLq2.out).mono ?_
          rintro e V3 ⟨x2, rfl, ho, hb⟩
          have hE2 : Elt V3 W1.heap.size V3.heap.size x2 (numsF numT hi) := Elt.ofX (OwnX.of ho) hS2.size
          have hS3 : Below W1.heap.size W1 V3 := hS2.trans (hb.mono hS2.size)
          replace hE1 := hE1.below hb (Nat.le_refl _)
          replace hE0 := hE0.below hb (Nat.le_refl _)
          clear ho hb
          go_simp
          refine hK.out _ _ hS3 (fun hT => ?_)
          clear hK hT
          try simp only [Act.put, List.setIfInBounds_toArray, List.set_cons_zero, List.set_cons_succ]
          obtain ⟨A0, C0, hx⟩ := hE0.slice
          replace hx : x0 = .slice A0 f.size C0 := hx
          subst hx
          obtain ⟨A1, C1, hx⟩ := hE1.slice
          replace hx : x1 = .slice A1 (numsF numT lo).length C1 := hx
          subst hx
          obtain ⟨A2, C2, hx⟩ := hE2.slice
          replace hx : x2 = .slice A2 (numsF numT hi).length C2 := hx
          subst hx
          refine wpAnyH_ready (rs := [10]) (by kernel_rfl) (by simp) ?_
          refine' AllReadyH.cons (by simp only [List.getElem?_toArray, List.getElem?_cons_succ, List.getElem?_cons_zero]; rfl) (fun K hK => ?_) AllReadyH.nil
          have hRn := reads_new V3 43 [.slice A0 f.size C0, .slice A1 (numsF numT lo).length C1, .slice A2 (numsF numT hi).length C2] 3 rfl
          go_simp
          replace hE1 := hE1.below ((Below.refl _ V3).alloc (Nat.le_refl _) (.cells #[.slice A0 f.size C0, .slice A1 (numsF numT lo).length C1, .slice A2 (numsF numT hi).length C2] 43)) (Nat.le_refl _)
          replace hE0 := hE0.below ((Below.refl _ V3).alloc (Nat.le_refl _) (.cells #[.slice A0 f.size C0, .slice A1 (numsF numT lo).length C1, .slice A2 (numsF numT hi).length C2] 43)) (Nat.le_refl _)
          replace hE2 := hE2.below ((Below.refl _ V3).alloc (Nat.le_refl _) (.cells #[.slice A0 f.size C0, .slice A1 (numsF numT lo).length C1, .slice A2 (numsF numT hi).length C2] 43)) (Nat.le_refl _)
          have hS4 := Below.alloc hS3 hS3.size (.cells #[.slice A0 f.size C0, .slice A1 (numsF numT lo).length C1, .slice A2 (numsF numT hi).length C2] 43)
          generalize hAb : (some ⟨V3.heap.size, 0, none⟩ : Option Addr) = Ab at *
          clear hAb
          generalize V3.alloc (.cells #[.slice A0 f.size C0, .slice A1 (numsF numT lo).length C1, .slice A2 (numsF numT hi).length C2] 43) = V4 at *
          refine hK.out _ _ hS4 (fun hT => ?_)
          clear hK
          try simp only [Act.put, List.setIfInBounds_toArray, List.set_cons_zero, List.set_cons_succ]
          refine wpAnyH_ready (rs := [11]) (by kernel_rfl) (by simp) ?_
          refine' AllReadyH.cons (by simp only [List.getElem?_toArray, List.getElem?_cons_succ, List.getElem?_cons_zero]; rfl) (fun K hK => ?_) AllReadyH.nil
          refine step_append_any _ rfl (.tmp 49) (.tmp 59) 74 rfl W1.heap.size 43 j0 (.slice none 0 0) 1 24 Tryd.underlying74 hj1 hj2 hj3 hj4 rfl (by decide) (.slice none 0 0) 0 [] rfl (World.ownsRow_nil _ _ _ _) _ Ab 3 3 [.slice A0 f.size C0, .slice A1 (numsF numT lo).length C1, .slice A2 (numsF numT hi).length C2] rfl hRn (by intro y hy; simp only [List.mem_cons, List.not_mem_nil, or_false] at hy; rcases hy with rfl | rfl | rfl; exact hE0.one; exact hE1.one; exact hE2.one) (by decide) (by decide) hS4.size ?_
          intro v' w' ho hg _
          have hP : Parts W1.heap.size w' v' [f.data.toList, numsF numT lo, numsF numT hi] := parts_more (ps := []) (ps' := [f.data.toList, numsF numT lo, numsF numT hi]) (World.ownsRow_nil _ _ _ _) rfl (parts_one (xs := [.slice A0 f.size C0, .slice A1 (numsF numT lo).length C1]) (ps := [f.data.toList, numsF numT lo]) (parts_one (xs := [.slice A0 f.size C0]) (ps := [f.data.toList]) (parts_one (xs := []) (ps := []) (fun i x p h => by simp at h) rfl hE0) rfl hE1) rfl hE2) ho hg
          have hSe : Below W1.heap.size W1 w' := hS4.grown hg hS4.size (fun r e => by cases e)
          refine hK.out _ _ hSe (fun hT => ?_)
          clear hK
          try simp only [Act.put, List.setIfInBounds_toArray, List.set_cons_zero, List.set_cons_succ]
          refine' wpAnyH_take (i := 12) (v := _) (by simp only [List.getElem?_toArray, List.getElem?_cons_succ, List.getElem?_cons_zero]; rfl) (by kernel_rfl) (by kernel_rfl) (by kernel_rfl) (by rintro _ _ _ ⟨h, _⟩; cases h) (Or.inl ⟨by rfl, ?hm12_9⟩) hSe ?rm12_9
          case hm12_9 => intro V hSw; clear hSw; go_simp; try with_reducible rfl
          try simp only [Act.put, List.setIfInBounds_toArray, List.set_cons_zero, List.set_cons_succ]
          refine wpAnyH_done (by kernel_rfl) ?_ _
          exact ⟨rfl, .slice A0 f.size C0, .slice A1 (numsF numT lo).length C1, .slice A2 (numsF numT hi).length C2, Ab, v', hP, hSe, rfl⟩
        exact AllReadyH.nil
      refine' AllReadyH.cons (by simp only [List.getElem?_toArray, List.getElem?_cons_succ, List.getElem?_cons_zero]; rfl) (fun K hK => ?_) ?_
      · skip
        go_simp
        refine (rnums_any _ _ hi _ ((HA.out.high.below (HW1.out.trans (hS1.mono HW1.out.size))).more (Nat.le_trans HW1.out.size hS1.size)) HOK.out.2.2.2.2.1.2 (by have := HOK.out.2.2.2.2.1.1; omega) HLq2.out).mono ?_
        rintro e V2 ⟨x2, rfl, ho, hb⟩
        have hE2 : Elt V2 W1.heap.size V2.heap.size x2 (numsF numT hi) := Elt.ofX (OwnX.of ho) hS1.size
        have hS2 : Below W1.heap.size W1 V2 := hS1.trans (hb.mono hS1.size)
        replace hE1 := hE1.below hb (Nat.le_refl _)
        clear ho hb
        go_simp
        refine hK.out _ _ hS2 (fun hT => ?_)
        clear hK hT
        try simp only [Act.put, List.setIfInBounds_toArray, List.set_cons_zero, List.set_cons_succ]
        refine wpAnyH_ready (rs := [3]) (by kernel_rfl) (by simp) ?_
        refine' AllReadyH.cons (by simp only [List.getElem?_toArray, List.getElem?_cons_succ, List.getElem?_cons_zero]; rfl) (fun K hK => ?_) ?_
        · skip
          have hcv := Lib.run_convert_string_bytes (P := Tryd.prog) V2 9 43 5 f (u := .string) Tryd.underlying9 Tryd.underlying43 Tryd.underlying5
          have hox := ownX_bytes V2 W1.heap.size 5 f hS2.size (by have := HOK.out.1; unfold maxLen; omega)
          have hbb := below_bytes V2 5 f
          generalize Lib.bytesWorld V2 5 f = V3 at *
          generalize hxv : Value.slice (some ⟨V2.heap.size, 0, none⟩) f.size (grownCap V2 f.size 0 5) = x0 at *
          clear hxv
          go_simp
          replace hE1 := hE1.below hbb (Nat.le_refl _)
          replace hE2 := hE2.below hbb (Nat.le_refl _)
          have hE0 : Elt V3 W1.heap.size V3.heap.size x0 (f.data.toList) := Elt.ofX hox (Nat.le_refl _)
          have hS3 : Below W1.heap.size W1 V3 := hS2.trans (hbb.mono hS2.size)
          refine hK.out _ _ hS3 (fun hT => ?_)
          clear hK hcv hox hT
          try simp only [Act.put, List.setIfInBounds_toArray, List.set_cons_zero, List.set_cons_succ]
          clear hbb
          obtain ⟨A0, C0, hx⟩ := hE0.slice
          replace hx : x0 = .slice A0 f.size C0 := hx
          subst hx
          obtain ⟨A1, C1, hx⟩ := hE1.slice
          replace hx : x1 = .slice A1 (numsF numT lo).length C1 := hx
          subst hx
          obtain ⟨A2, C2, hx⟩ := hE2.slice
          replace hx : x2 = .slice A2 (numsF numT hi).length C2 := hx
          subst hx
          refine wpAnyH_ready (rs := [10]) (by kernel_rfl) (by simp) ?_
          refine' AllReadyH.cons (by simp only [List.getElem?_toArray, List.getElem?_cons_succ, List.getElem?_cons_zero]; rfl) (fun K hK => ?_) AllReadyH.nil
          have hRn := reads_new V3 43 [.slice A0 f.size C0, .slice A1 (numsF numT lo).length C1, .slice A2 (numsF numT hi).length C2] 3 rfl
          go_simp
          replace hE1 := hE1.below ((Below.refl _ V3).alloc (Nat.le_refl _) (.cells #[.slice A0 f.size C0, .slice A1 (numsF numT lo).length C1, .slice A2 (numsF numT hi).length C2] 43)) (Nat.le_refl _)
          replace hE2 := hE2.below ((Below.refl _ V3).alloc (Nat.le_refl _) (.cells #[.slice A0 f.size C0, .slice A1 (numsF numT lo).length C1, .slice A2 (numsF numT hi).length C2] 43)) (Nat.le_refl _)
          replace hE0 := hE0.below ((Below.refl _ V3).alloc (Nat.le_refl _) (.cells #[.slice A0 f.size C0, .slice A1 (numsF numT lo).length C1, .slice A2 (numsF numT hi).length C2] 43)) (Nat.le_refl _)
          have hS4 := Below.alloc hS3 hS3.size (.cells #[.slice A0 f.size C0, .slice A1 (numsF numT lo).length C1, .slice A2 (numsF numT hi).length C2] 43)
          generalize hAb : (some ⟨V3.heap.size, 0, none⟩ : Option Addr) = Ab at *
          clear hAb
          generalize V3.alloc (.cells #[.slice A0 f.size C0, .slice A1 (numsF numT lo).length C1, .slice A2 (numsF numT hi).length C2] 43) = V4 at *
          refine hK.out _ _ hS4 (fun hT => ?_)
          clear hK
          try simp only [Act.put, List.setIfInBounds_toArray, List.set_cons_zero, List.set_cons_succ]
          refine wpAnyH_ready (rs := [11]) (by kernel_rfl) (by simp) ?_
          refine' AllReadyH.cons (by simp only [List.getElem?_toArray, List.getElem?_cons_succ, List.getElem?_cons_zero]; rfl) (fun K hK => ?_) AllReadyH.nil
          refine step_append_any _ rfl (.tmp 49) (.tmp 59) 74 rfl W1.heap.size 43 j0 (.slice none 0 0) 1 24 Tryd.underlying74 hj1 hj2 hj3 hj4 rfl (by decide) (.slice none 0 0) 0 [] rfl (World.ownsRow_nil _ _ _ _) _ Ab 3 3 [.slice A0 f.size C0, .slice A1 (numsF numT lo).length C1, .slice A2 (numsF numT hi).length C2] rfl hRn (by intro y hy; simp only [List.mem_cons, List.not_mem_nil, or_false] at hy; rcases hy with rfl | rfl | rfl; exact hE0.one; exact hE1.one; exact hE2.one) (by decide) (by decide) hS4.size ?_
          intro v' w' ho hg _
          have hP : Parts W1.heap.size w' v' [f.data.toList, numsF numT lo, numsF numT hi] := parts_more (ps := []) (ps' := [f.data.toList, numsF numT lo, numsF numT hi]) (World.ownsRow_nil _ _ _ _) rfl (parts_one (xs := [.slice A0 f.size C0, .slice A1 (numsF numT lo).length C1]) (ps := [f.data.toList, numsF numT lo]) (parts_one (xs := [.slice A0 f.size C0]) (ps := [f.data.toList]) (parts_one (xs := []) (ps := []) (fun i x p h => by simp at h) rfl hE0) rfl hE1) rfl hE2) ho hg
          have hSe : Below W1.heap.size W1 w' := hS4.grown hg hS4.size (fun r e => by cases e)
          refine hK.out _ _ hSe (fun hT => ?_)
          clear hK
          try simp only [Act.put, List.setIfInBounds_toArray, List.set_cons_zero, List.set_cons_succ]
          refine' wpAnyH_take (i := 12) (v := _) (by simp only [List.getElem?_toArray, List.getElem?_cons_succ, List.getElem?_cons_zero]; rfl) (by kernel_rfl) (by kernel_rfl) (by kernel_rfl) (by rintro _ _ _ ⟨h, _⟩; cases h) (Or.inl ⟨by rfl, ?hm12_10⟩) hSe ?rm12_10
          case hm12_10 => intro V hSw; clear hSw; go_simp; try with_reducible rfl
          try simp only [Act.put, List.setIfInBounds_toArray, List.set_cons_zero, List.set_cons_succ]
          refine wpAnyH_done (by kernel_rfl) ?_ _
          exact ⟨rfl, .slice A0 f.size C0, .slice A1 (numsF numT lo).length C1, .slice A2 (numsF numT hi).length C2, Ab, v', hP, hSe, rfl⟩
        exact AllReadyH.nil
      exact AllReadyH.nil
    exact AllReadyH.nil
  rintro ex a' W2 ⟨rfl, x0, x1, x2, Ab, v4, hP, hb2, rfl⟩
  have HP2 := Lib.hid hP; have HB2 := Lib.hid hb2
  clear hP hb2
  obtain ⟨_, _, hke, hckA, hmkA, helK⟩ := at_kids HA.out.kids
  injection hke with hk1 _ hk3
  subst hk1 hk3
  have HKS := Lib.hid helK
  clear helK hckA
  have hks : ks.length * 152 ≤ 140737488351232 := HOK.out.2.2.2.2.2.2
  have H0 : Hid (Parts W1.heap.size W2 v4 ([f.data.toList, numsF numT lo, numsF numT hi] ++ (writeL numT ks).take 0) ∧ Below W1.heap.size W1 W2) := Lib.hid ⟨by simpa using HP2.out, HB2.out⟩
  clear HP2 HB2
  go_wp2_with fail
  go_loopw [4, 5] (fun v i wr => ∃ k : Nat, k ≤ ks.length ∧ i = .int .i64 k ∧ Hid (Parts W1.heap.size wr v ([f.data.toList, numsF numT lo, numsF numT hi] ++ (writeL numT ks).take k) ∧ Below W1.heap.size W1 wr)) (fun _ i _ => ks.length - (intOf i).toNat)
  case atStart => exact ⟨0, by omega, rfl, H0⟩
  case round =>
    skip
    clear H0
    obtain ⟨k, hk, rfl, HP⟩ := hrel
    have HQr := Lib.hid (HQ1.out.below HP.out.2 HQ1.out.lt)
    have HWr := Lib.hid (HW1.out.trans (HP.out.2.mono HW1.out.size))
    have hzr := HP.out.2.size
    have q9 : wr.cell? ⟨w.heap.size, 9, none⟩ = some (.slice Kd ks.length ck) := HQr.out.cell 9
    by_cases hlt : k < ks.length
    · have hlt2 : (k : Int) < (ks.length : Int) := by omega
      obtain ⟨ad, us, hKe, hba, au, lu, cu⟩ := HKS.out k hlt
      subst hKe
      replace cu := cu.keep (w' := wr) (fun p hp => HWr.out.cell (by rw [hp, block_of_add]; exact hba))
      have HD := Lib.hid (fun (W : World) (hW : Below w.heap.size w W) => HA.out.down ks[k] (List.getElem_mem _) us W (atL_ltw au hW))
      have hocc := HA.out.occ ks[k] (List.getElem_mem _)
      have HX := Lib.hid (kids_takeR hlt)
      have HLK : Hid ((markF (QryP.oc ks[k]) ++ writeF numT ks[k]).length + 400 ≤ maxW) := Lib.hid (by have := kid_part (pc := [f.data.toList, numsF numT lo, numsF numT hi]) hlt; have := HLEN.out; omega)
      have HPL : Hid (([f.data.toList, numsF numT lo, numsF numT hi] ++ (writeL numT ks).take k).length ≤ ks.length + 3) := Lib.hid (by rw [List.length_append, List.length_take, writeL_len]; simp only [List.length_cons, List.length_nil]; omega)
      have q0 : wr.cell? ⟨w.heap.size, 0, none⟩ = some (.int .i64 7) := HQr.out.cell 0
      generalize hq : ks[k] = q at *
      have HNX : Hid (∀ (W : World) (v : Value), Parts W1.heap.size W v (([f.data.toList, numsF numT lo, numsF numT hi] ++ (writeL numT ks).take k) ++ [markF (QryP.oc q) ++ writeF numT q]) → Parts W1.heap.size W v ([f.data.toList, numsF numT lo, numsF numT hi] ++ (writeL numT ks).take (k + 1))) := Lib.hid (fun W v h => by rw [HX.out, ← List.append_assoc]; exact h)
      clear HX
      generalize [f.data.toList, numsF numT lo, numsF numT hi] ++ (writeL numT ks).take k = PS at *
      obtain ⟨ao, ca, hao⟩ := HP.out.1.slice
      subst hao
      generalize hTX : writeF numT q = TX at *
      clear hTX
      obtain ⟨kd', oc', f', t', u', lo', hi', b', op', ks'⟩ := q
      obtain ⟨vl, vh, vk, rfl, hvl, hvh, hvk⟩ := at_cells au
      obtain ⟨B1, d1, rfl, _⟩ := at_ints hvl
      obtain ⟨B2, d2, rfl, _⟩ := at_ints hvh
      obtain ⟨B3, d3, rfl⟩ := at_sl hvk
      obtain ⟨a0, a1, a2, a3, a4, a5, a6, a7, a8, a9⟩ := ten cu
      have HCU := Lib.hid cu
      clear hq au hvl hvh hvk cu lu
      replace hocc : ((7 : Int) = 8 → 1 ≤ oc' ∧ oc' ≤ 4) ∧ ((7 : Int) ≠ 8 → oc' = 0) := hocc
      change Hid ((markF oc' ++ TX).length + 400 ≤ maxW) at HLK
      change Hid (∀ (W : World) (v : Value), Parts W1.heap.size W v (PS ++ [markF oc' ++ TX]) → Parts W1.heap.size W v ([f.data.toList, numsF numT lo, numsF numT hi] ++ (writeL numT ks).take (k + 1))) at HNX
      obtain ⟨hi1, hi2, hi3, hi4⟩ := HI.out
      obtain ⟨hj1, hj2, hj3, hj4⟩ := HJ.out
      obtain rfl : oc' = 0 := hocc.2 (by decide)
      clear hocc
      go_wp2_with fail
      refine (HD.out _ HWr.out).mono ?_
      rintro e w2 ⟨x, rfl, ho, hb⟩
      obtain ⟨A6, C6, hx⟩ := ho.slice
      subst hx
      have hrd := ho.reads
      have hB2 : Below wr.heap.size wr w2 := hb
      have h6 : OwnX w2 wr.heap.size 5 1 (.slice none 0 0) 0 (Lib.byteCells ([] : List UInt8)) := ⟨by simp [Lib.byteCells], .inl ⟨rfl, rfl⟩⟩
      clear ho hb a0 a1 a2 a3 a4 a5 a6 a7 a8 a9 q9 q0 
      have hlk : 0 + TX.length + 400 ≤ maxW := by have := HLK.out; first | (simpa [markF] using this) | (simp [markF] at this; omega)
      have hz2 := hB2.size
      go_wp2_with (at_builtin; refine wpList_appendX _ rfl (.tmp 107) (.tmp 113) 43 rfl wr.heap.size 5 i0 (.int .u8 0) 1 1 Tryd.underlying43 hi1 hi2 hi3 hi4 rfl (by decide) _ _ _ rfl h6 _ A6 TX.length C6 _ rfl hrd cells_one (by unfold maxLen; unfold maxW at hlk; omega) (by unfold maxW at hlk; omega) hz2 ?_)
      intro v7 w7 ho7 hg7 hv7
      have h7 : OwnX w7 wr.heap.size 5 1 v7 (([] : List UInt8) ++ TX).length (Lib.byteCells (([] : List UInt8) ++ TX)) := by
        have e : Lib.byteCells (([] : List UInt8) ++ TX) = Lib.byteCells ([] : List UInt8) ++ Lib.byteCells TX := by simp [Lib.byteCells]
        first | (rw [e, List.length_append]; exact ho7) | exact ho7
      have hB7 : Below wr.heap.size wr w7 := hB2.grown hg7 hz2 (fun r e => (h6.lt r e).1)
      have hE7 : Elt w7 W1.heap.size w7.heap.size v7 (([] : List UInt8) ++ TX) := Elt.ofX h7 hzr
      obtain ⟨A7, C7, hx⟩ := hE7.slice
      subst hx
      have hPz := (HP.out.1.below hB7).below ((Below.refl _ w7).alloc (Nat.le_refl _) (.cells #[.slice A7 (([] : List UInt8) ++ TX).length C7] 43))
      have hE8 := hE7.below ((Below.refl _ w7).alloc (Nat.le_refl _) (.cells #[.slice A7 (([] : List UInt8) ++ TX).length C7] 43)) (Nat.le_refl _)
      obtain ⟨xs, hox, hxl, hxe⟩ := hPz
      have hRn := reads_new w7 43 [.slice A7 (([] : List UInt8) ++ TX).length C7] 1 rfl
      have hB8 : Below W1.heap.size W1 (w7.alloc (.cells #[.slice A7 (([] : List UInt8) ++ TX).length C7] 43)) := (HP.out.2.trans (hB7.mono hzr)).alloc (Nat.le_trans hzr hB7.size) _
      have hpl := HPL.out
      clear ho7 hg7 hv7 h6 hrd hlk hE7 h7 hB2
      go_wp2_with (at_builtin; refine wpList_append_any _ rfl (.tmp 115) (.tmp 117) 74 rfl W1.heap.size 43 j0 (.slice none 0 0) 1 24 Tryd.underlying74 hj1 hj2 hj3 hj4 rfl (by decide) _ _ _ rfl hox _ _ 1 1 [.slice A7 (([] : List UInt8) ++ TX).length C7] rfl hRn (by intro y hy; simp only [List.mem_cons, List.not_mem_nil, or_false] at hy; subst hy; rfl) (by unfold maxLen; omega) (by omega) hB8.size ?_)
      intro v8 w8 ho8 hg8 _
      have HN : Hid (Parts W1.heap.size w8 v8 ([f.data.toList, numsF numT lo, numsF numT hi] ++ (writeL numT ks).take (k + 1)) ∧ Below W1.heap.size W1 w8) := Lib.hid ⟨HNX.out _ _ (parts_more (ps' := [([] : List UInt8) ++ TX]) hox rfl (parts_one hxe hxl hE8) ho8 hg8), hB8.grown hg8 hB8.size (fun r e => (hox.lt r e).1)⟩
      clear ho8 hg8 hox hxe hxl hE8 hRn hB8 hi1 hi2 hi3 hi4 hj1 hj2 hj3 hj4 hB7
      go_wp2_with fail
      go_roundw
      case rel => exact ⟨k + 1, by omega, by go_num, HN⟩
      case measure => simp [intOf]; omega
    · obtain rfl : k = ks.length := by omega
      obtain ⟨wo, hwo⟩ : ∃ wo : World, wo = wr := ⟨_, rfl⟩
      subst hwo
      have hall : (writeL numT ks).take ks.length = writeL numT ks := List.take_of_length_le (by rw [writeL_len]; exact Nat.le_refl _)
      rw [hall] at HP
      generalize hPS : [f.data.toList, numsF numT lo, numsF numT hi] ++ writeL numT ks = PS at *
      obtain ⟨ao, ca, hao⟩ := HP.out.1.slice
      subst hao
      have HPL : Hid (PS.length ≤ ks.length + 3) := Lib.hid (by rw [← hPS, List.length_append, writeL_len]; simp only [List.length_cons, List.length_nil]; omega)
      have HPS := Lib.hid hPS
      clear hall hPS HKS
      obtain ⟨hi1, hi2, hi3, hi4⟩ := HI.out
      have HJ0 : Hid (Jn W1.heap.size wo w (wordF 7) (.slice ab (wordF 7).length cb) wo) := Lib.hid ⟨HB.out.below HP.out.2 (Nat.le_refl _), fun g e => .inl (HBl.out g e), HWr.out, fun g _ _ => rfl, Nat.le_refl _, HWr.out.size⟩
      have HJ1 := Lib.hid (HJ0.out.alloc (.cells #[.int .u8 40] 5))
      have hpl := HPL.out
      have hlen0 := HLEN.out
      unfold maxW at hlen0
      rw [List.length_append, show ([40] : List UInt8).length = 1 from rfl] at hlen0
      go_wp2_with (at_builtin; refine wpList_appendX _ rfl (.tmp 119) (.tmp 120) 43 rfl w.heap.size 5 i0 (.int .u8 0) 1 1 Tryd.underlying43 hi1 hi2 hi3 hi4 rfl (by decide) _ _ _ rfl HJ1.out.own _ _ 1 1 [.int .u8 40] rfl (reads_new wo 5 [.int .u8 40] 1 rfl) (by intro y hy; simp only [List.mem_cons, List.not_mem_nil, or_false] at hy; subst hy; rfl) (by unfold maxLen; omega) (by omega) HJ1.out.base ?_)
      intro vb w3 ho3 hg3 hv3
      have HJ2 : Hid (Jn W1.heap.size wo w (wordF 7 ++ [40] ++ joinF [44, 32] (PS.take 0)) vb w3) := Lib.hid (by rw [List.take_zero, joinF, List.append_nil]; exact HJ1.out.app (p := [40]) ho3 hg3 (hv3.imp (fun h => h) (fun h => by rw [h]; simp)))
      clear ho3 hg3 hv3 HJ0 HJ1 q9 hi1 hi2 hi3 hi4
      have hpm : PS.length ≤ 9223372036854775807 := by omega
      go_wp2_with fail
      go_loopw [3, 7] (fun v i wz => ∃ j : Nat, j ≤ PS.length ∧ i = .int .i64 j ∧ Hid (Jn W1.heap.size wo w (wordF 7 ++ [40] ++ joinF [44, 32] (PS.take j)) v wz)) (fun _ i _ => PS.length - (intOf i).toNat)
      case atStart => exact ⟨0, by omega, rfl, HJ2⟩
      case round =>
        clear HJ2
        obtain ⟨j, hj, rfl, HN⟩ := hrel
        obtain ⟨ab3, cb3, hab3⟩ := HN.out.own.slice
        subst hab3
        obtain ⟨hi1, hi2, hi3, hi4⟩ := HI.out
        by_cases hjl : j < PS.length
        · have hjl2 : (j : Int) < (PS.length : Int) := by omega
          obtain ⟨g4, x4, B4, m4, hA4, _, hc4, hr4⟩ := parts_at HP.out.1 HN.out hjl
          subst hA4
          have HJT := Lib.hid (join_take hjl)
          have hle := join_le PS (j + 1)
          generalize hpj : PS[j] = pj at *
          have HPJ := Lib.hid hpj
          clear hpj
          by_cases h0 : j = 0
          · have d0 : decide (0 < j) = false := decide_eq_false (by omega)
            have HE : Hid (wordF 7 ++ [40] ++ joinF [44, 32] (PS.take (j + 1)) = (wordF 7 ++ [40] ++ joinF [44, 32] (PS.take j)) ++ pj) := Lib.hid (by rw [HJT.out, if_pos h0, h0]; simp [joinF])
            have hlx : (wordF 7 ++ [40] ++ joinF [44, 32] (PS.take j)).length + pj.length + 100 ≤ 140737488355328 := by
              have h2 := congrArg List.length HE.out
              rw [List.length_append, List.length_append, List.length_append (bs := pj), show ([40] : List UInt8).length = 1 from rfl] at h2
              omega
            clear HJT h0 hle
            generalize wordF 7 ++ [40] ++ joinF [44, 32] (PS.take j) = LJ at *
            go_wp2_with (at_builtin; refine wpList_appendX _ rfl (.tmp 133) (.tmp 137) 43 rfl w.heap.size 5 i0 (.int .u8 0) 1 1 Tryd.underlying43 hi1 hi2 hi3 hi4 rfl (by decide) _ _ _ rfl HN.out.own _ x4 pj.length m4 _ rfl hr4 cells_one (by unfold maxLen; omega) (by omega) HN.out.base ?_)
            intro v5 w5 ho5 hg5 hv5
            have HN5 : Hid (Jn W1.heap.size wo w (wordF 7 ++ [40] ++ joinF [44, 32] (PS.take (j + 1))) v5 w5) := Lib.hid (by rw [HE.out]; exact HN.out.app ho5 hg5 hv5)
            clear ho5 hg5 hv5 hc4 hr4 hi1 hi2 hi3 hi4
            go_wp2_with fail
            go_roundw
            case rel => exact ⟨j + 1, by omega, by go_num, HN5⟩
            case measure => simp [intOf]; omega
          · have d0 : decide (0 < j) = true := decide_eq_true (by omega)
            have HE : Hid (wordF 7 ++ [40] ++ joinF [44, 32] (PS.take (j + 1)) = ((wordF 7 ++ [40] ++ joinF [44, 32] (PS.take j)) ++ [44, 32]) ++ pj) := Lib.hid (by rw [HJT.out, if_neg h0]; simp)
            have hlx : (wordF 7 ++ [40] ++ joinF [44, 32] (PS.take j)).length + 2 + pj.length + 100 ≤ 140737488355328 := by
              have h2 := congrArg List.length HE.out
              rw [List.length_append, List.length_append, List.length_append (bs := pj), List.length_append (bs := [44, 32]), show ([40] : List UInt8).length = 1 from rfl, show ([44, 32] : List UInt8).length = 2 from rfl] at h2
              omega
            clear HJT h0 hle
            generalize wordF 7 ++ [40] ++ joinF [44, 32] (PS.take j) = LJ at *
            have HNa := Lib.hid (HN.out.alloc (.cells #[.int .u8 44, .int .u8 32] 5))
            clear hc4 hr4
            go_wp2_with (at_builtin; refine wpList_appendX _ rfl (.tmp 130) (.tmp 131) 43 rfl w.heap.size 5 i0 (.int .u8 0) 1 1 Tryd.underlying43 hi1 hi2 hi3 hi4 rfl (by decide) _ _ _ rfl HNa.out.own _ _ 2 2 [.int .u8 44, .int .u8 32] rfl (reads_new wr 5 [.int .u8 44, .int .u8 32] 2 rfl) (by intro y hy; simp only [List.mem_cons, List.not_mem_nil, or_false] at hy; rcases hy with rfl | rfl <;> rfl) (by unfold maxLen; omega) (by omega) HNa.out.base ?_)
            intro v4' w4 ho4 hg4 hv4
            have HN4 : Hid (Jn W1.heap.size wo w (LJ ++ [44, 32]) v4' w4) := Lib.hid (HNa.out.app (p := [44, 32]) ho4 hg4 (hv4.imp (fun h => h) (fun h => by rw [h]; simp)))
            clear ho4 hg4 hv4 HNa
            obtain ⟨ab4, cb4, hab4⟩ := HN4.out.own.slice
            subst hab4
            obtain ⟨g5, x5, B5, m5, hA5, _, hc5, hr5⟩ := parts_at HP.out.1 HN4.out hjl
            injection hA5 with hA5
            injection hA5 with hA5
            subst hA5
            rw [HPJ.out] at hc5 hr5
            have hlx2 : (LJ ++ [44, 32]).length + pj.length + 100 ≤ 140737488355328 := by rw [List.length_append, show ([44, 32] : List UInt8).length = 2 from rfl]; omega
            generalize LJ ++ [44, 32] = LJ2 at *
            go_wp2_with (at_builtin; refine wpList_appendX _ rfl (.tmp 133) (.tmp 137) 43 rfl w.heap.size 5 i0 (.int .u8 0) 1 1 Tryd.underlying43 hi1 hi2 hi3 hi4 rfl (by decide) _ _ _ rfl HN4.out.own _ x5 pj.length m5 _ rfl hr5 cells_one (by unfold maxLen; omega) (by omega) HN4.out.base ?_)
            intro v5 w5 ho5 hg5 hv5
            have HN5 : Hid (Jn W1.heap.size wo w (wordF 7 ++ [40] ++ joinF [44, 32] (PS.take (j + 1))) v5 w5) := Lib.hid (by rw [HE.out]; exact HN4.out.app ho5 hg5 hv5)
            clear ho5 hg5 hv5 hc5 hr5 hi1 hi2 hi3 hi4
            go_wp2_with fail
            go_roundw
            case rel => exact ⟨j + 1, by omega, by go_num, HN5⟩
            case measure => simp [intOf]; omega
        · obtain rfl : j = PS.length := by omega
          have hle : (wordF 7 ++ [40] ++ joinF [44, 32] (PS.take PS.length)).length + 100 ≤ 140737488355328 := by
            rw [List.take_length, List.length_append, List.length_append, show ([40] : List UInt8).length = 1 from rfl]
            omega
          have HE : Hid (writeF numT (.mk 7 oc f t u lo hi bo op ks) = (wordF 7 ++ [40] ++ joinF [44, 32] (PS.take PS.length)) ++ [41]) := Lib.hid (by rw [HWF.out, List.take_length]; simp)
          have HNa := Lib.hid (HN.out.alloc (.cells #[.int .u8 41] 5))
          generalize wordF 7 ++ [40] ++ joinF [44, 32] (PS.take PS.length) = LJ at *
          go_wp2_with (at_builtin; refine wpList_appendX _ rfl (.tmp 139) (.tmp 140) 43 rfl w.heap.size 5 i0 (.int .u8 0) 1 1 Tryd.underlying43 hi1 hi2 hi3 hi4 rfl (by decide) _ _ _ rfl HNa.out.own _ _ 1 1 [.int .u8 41] rfl (reads_new wr 5 [.int .u8 41] 1 rfl) (by intro y hy; simp only [List.mem_cons, List.not_mem_nil, or_false] at hy; subst hy; rfl) (by unfold maxLen; omega) (by omega) HNa.out.base ?_)
          intro v5 w5 ho5 hg5 hv5
          have HN5 : Hid (Jn W1.heap.size wo w (LJ ++ [41]) v5 w5) := Lib.hid (HNa.out.app (p := [41]) ho5 hg5 (hv5.imp (fun h => h) (fun h => by rw [h]; simp)))
          clear ho5 hg5 hv5 hi1 hi2 hi3 hi4 HNa
          go_wp2_with fail
          go_ret
          exact ⟨_, rfl, by rw [HE.out]; exact HN5.out.own, HN5.out.below⟩
set_option maxRecDepth 100000 in
set_option maxHeartbeats 16000000 in
theorem rwrite_8 (h : RAsk 8 oc f t u lo hi bo op ks L Hh Kd ck w) :
    Calls Tryd.prog 28 #[.agg #[.int .i64 8, .int .i64 oc, .string f, .string t, .string u, .slice L lo.length cl, .slice Hh hi.length ch, .int .i64 bo, .int .i64 op, .slice Kd ks.length ck]] w (RowBX (writeF numT (.mk 8 oc f t u lo hi bo op ks)) w) := by
  have HA := Lib.hid h
  obtain ⟨i0, hi1, hi2, hi3, hi4⟩ := info_parts infoU8
  obtain ⟨j0, hj1, hj2, hj3, hj4⟩ := info_parts infoS8
  have HI := Lib.hid (And.intro hi1 (And.intro hi2 (And.intro hi3 hi4)))
  have HJ := Lib.hid (And.intro hj1 (And.intro hj2 (And.intro hj3 hj4)))
  clear hi1 hi2 hi3 hi4 hj1 hj2 hj3 hj4
  have HOK : Hid (f.size ≤ 140737488351232 ∧ t.size ≤ 140737488351232 ∧ u.size ≤ 140737488351232 ∧ (lo.length * 8 ≤ 140737488351232 ∧ ∀ z ∈ lo, I64 z) ∧ (hi.length * 8 ≤ 140737488351232 ∧ ∀ z ∈ hi, I64 z) ∧ I64 bo ∧ ks.length * 152 ≤ 140737488351232) := Lib.hid (by
    cases h.ok with
    | mk _ _ a1 a2 a3 a4 a5 a6 _ a7 _ => exact ⟨a1, a2, a3, a4, a5, a6, a7⟩)
  have hW : writeF numT (.mk 8 oc f t u lo hi bo op ks) = wordF 8 ++ 40 :: (joinF [44, 32] ([] ++ writeL numT ks) ++ [41]) := by
    rw [writeF, if_neg (by decide)]; rfl
  have HWF := Lib.hid hW
  have HLEN : Hid ((wordF 8 ++ [40]).length + (joinF [44, 32] ([] ++ writeL numT ks)).length + 401 ≤ maxW) := Lib.hid (by
    have := h.len
    rw [hW] at this
    simp only [List.length_append, List.length_cons, List.length_nil] at *
    omega)
  clear hW
  clear h
  go_enter Tryd.func28, Tryd.ntmps28
  go_upto_region 1 with fail
  have HQ0 := Lib.hid (Blk.new w 25 #[.int .i64 8, .int .i64 oc, .string f, .string t, .string u, .slice L lo.length cl, .slice Hh hi.length ch, .int .i64 bo, .int .i64 op, .slice Kd ks.length ck])
  have HW0 := Lib.hid ((Below.refl _ w).alloc (Nat.le_refl _) (.cells #[.int .i64 8, .int .i64 oc, .string f, .string t, .string u, .slice L lo.length cl, .slice Hh hi.length ch, .int .i64 bo, .int .i64 op, .slice Kd ks.length ck] 25))
  have hz0 : (w.alloc (.cells #[.int .i64 8, .int .i64 oc, .string f, .string t, .string u, .slice L lo.length cl, .slice Hh hi.length ch, .int .i64 bo, .int .i64 op, .slice Kd ks.length ck] 25)).heap.size = w.heap.size + 1 := by simp
  generalize (w.alloc (.cells #[.int .i64 8, .int .i64 oc, .string f, .string t, .string u, .slice L lo.length cl, .slice Hh hi.length ch, .int .i64 bo, .int .i64 op, .slice Kd ks.length ck] 25)) = W0 at *
  refine wp_region_held_drew (S := fun V => Below W0.heap.size W0 V) (by kernel_rfl) (Below.refl _ W0).drew (fun hSd0 => ?_)
  refine' wpAnyH_take (i := 1) (v := _) (by simp only [List.getElem?_toArray, List.getElem?_cons_succ, List.getElem?_cons_zero]; rfl) (by kernel_rfl) (by kernel_rfl) (by kernel_rfl) (by exact fun _ _ _ h => h) (Or.inl ⟨by rfl, ?hyd1⟩) hSd0 ?restd1
  case hyd1 => intro V hSw; clear hSw; go_simp; try with_reducible rfl
  try simp only [Act.put, List.setIfInBounds_toArray, List.set_cons_zero, List.set_cons_succ]
  refine' wpAnyH_take (i := 2) (v := _) (by simp only [List.getElem?_toArray, List.getElem?_cons_succ, List.getElem?_cons_zero]; rfl) (by kernel_rfl) (by kernel_rfl) (by kernel_rfl) (by exact fun _ _ _ h => h) (Or.inl ⟨by rfl, ?hyd2⟩) hSd0 ?restd2
  case hyd2 => intro V hSw; have fq := (HQ0.out.below hSw HQ0.out.lt).cell 0; clear hSw; go_simp; try with_reducible rfl
  try simp only [Act.put, List.setIfInBounds_toArray, List.set_cons_zero, List.set_cons_succ]
  refine wpAnyH_ready (rs := [0]) (by kernel_rfl) (by simp) ?_
  refine' AllReadyH.cons (by simp only [List.getElem?_toArray, List.getElem?_cons_zero]; rfl) (fun KC hK => ?_) AllReadyH.nil
  go_simp
  refine (rwords_any _).mono ?_
  rintro e V1 ⟨rfl, hb, hc⟩
  have hc : V1.cell? ⟨w.heap.size + 1, 8, none⟩ = some (.string (str (wordF 8))) := by rw [← hz0]; exact hc 8 (by decide) (by decide)
  have hs1 : Below W0.heap.size W0 V1 := hSd0.trans (hb.mono hSd0.size)
  clear hb
  go_simp
  refine hK.out _ _ hs1 (fun hSd1 => ?_)
  clear hK hs1
  try simp only [Act.put, List.setIfInBounds_toArray, List.set_cons_zero, List.set_cons_succ]
  refine' wpAnyH_take (i := 3) (v := _) (by simp only [List.getElem?_toArray, List.getElem?_cons_succ, List.getElem?_cons_zero]; rfl) (by kernel_rfl) (by kernel_rfl) (by kernel_rfl) (by exact fun _ _ _ h => h) (Or.inl ⟨by rfl, ?hyd3⟩) hSd1 ?restd3
  case hyd3 => intro V hSw; clear hSw; go_simp; try with_reducible rfl
  try simp only [Act.put, List.setIfInBounds_toArray, List.set_cons_zero, List.set_cons_succ]
  refine wpAnyH_ready (rs := [4]) (by kernel_rfl) (by simp) ?_
  refine' AllReadyH.cons (by simp only [List.getElem?_toArray, List.getElem?_cons_succ, List.getElem?_cons_zero]; rfl) (fun KC hK => ?_) AllReadyH.nil
  go_simp
  refine hK.out _ _ hSd1 (fun hSd2 => ?_)
  clear hK
  try simp only [Act.put, List.setIfInBounds_toArray, List.set_cons_zero, List.set_cons_succ]
  refine wpAnyH_ready (rs := [5]) (by kernel_rfl) (by simp) ?_
  refine' AllReadyH.cons (by simp only [List.getElem?_toArray, List.getElem?_cons_succ, List.getElem?_cons_zero]; rfl) (fun KC hK => ?_) AllReadyH.nil
  have hcv := Lib.run_convert_string_bytes (P := Tryd.prog) V1 9 43 5 (str (wordF 8)) (u := .string) Tryd.underlying9 Tryd.underlying43 Tryd.underlying5
  have hox := ownX_bytes V1 w.heap.size 5 (str (wordF 8)) (by have := hSd1.size; omega) (by decide)
  have hbb := below_bytes V1 5 (str (wordF 8))
  generalize Lib.bytesWorld V1 5 (str (wordF 8)) = W1 at *
  go_simp
  have hs1 : Below W0.heap.size W0 W1 := hSd1.trans (hbb.mono hSd1.size)
  refine hK.out _ _ hs1 (fun hSd3 => ?_)
  clear hK
  try simp only [Act.put, List.setIfInBounds_toArray, List.set_cons_zero, List.set_cons_succ]
  refine' wpAnyH_take (i := 6) (v := _) (by simp only [List.getElem?_toArray, List.getElem?_cons_succ, List.getElem?_cons_zero]; rfl) (by kernel_rfl) (by kernel_rfl) (by kernel_rfl) (by exact fun _ _ _ h => h) (Or.inl ⟨by rfl, ?hyd6⟩) hSd3 ?restd6
  case hyd6 => intro V hSw; clear hSw; go_simp; try with_reducible rfl
  try simp only [Act.put, List.setIfInBounds_toArray, List.set_cons_zero, List.set_cons_succ]
  refine wpAnyH_done (by kernel_rfl) ?_ _
  obtain ⟨ab, cb, hab⟩ := hox.slice
  have HB : Hid (OwnX W1 w.heap.size 5 1 (.slice ab (wordF 8).length cb) (wordF 8).length (Lib.byteCells (wordF 8))) := Lib.hid (by rw [hab] at hox; exact hox)
  rw [hab]
  have HBl : Hid (∀ g, (Value.slice ab (wordF 8).length cb).ownBlock = some g → g < W1.heap.size) := Lib.hid (fun g hg => (HB.out.lt g hg).2)
  clear hSd0 hSd1 hSd2 hSd3 hcv hab hox hbb hc
  have HQ1 := Lib.hid (HQ0.out.below hs1 HQ0.out.lt)
  have HW1 := Lib.hid (HW0.out.trans (hs1.mono HW0.out.size))
  have hz1 : w.heap.size + 1 ≤ W1.heap.size := HQ1.out.lt
  clear hs1 hz0
  obtain ⟨c0, c1, c2, c3, c4, c5, c6, c7, c8, c9⟩ := tenB HQ1.out
  have HP2 : Hid (Parts W1.heap.size W1 (.slice none 0 0) []) := Lib.hid (Parts.nil _ _)
  have HB2 : Hid (Below W1.heap.size W1 W1) := Lib.hid (Below.refl _ _)
  obtain ⟨_, _, hke, hckA, hmkA, helK⟩ := at_kids HA.out.kids
  injection hke with hk1 _ hk3
  subst hk1 hk3
  have HKS := Lib.hid helK
  clear helK hckA
  have hks : ks.length * 152 ≤ 140737488351232 := HOK.out.2.2.2.2.2.2
  have H0 : Hid (Parts W1.heap.size W1 (.slice none 0 0) (([] : List (List UInt8)) ++ (writeL numT ks).take 0) ∧ Below W1.heap.size W1 W1) := Lib.hid ⟨by simpa using HP2.out, HB2.out⟩
  clear HP2 HB2
  go_wp2_with fail
  go_loopw [4, 5] (fun v i wr => ∃ k : Nat, k ≤ ks.length ∧ i = .int .i64 k ∧ Hid (Parts W1.heap.size wr v (([] : List (List UInt8)) ++ (writeL numT ks).take k) ∧ Below W1.heap.size W1 wr)) (fun _ i _ => ks.length - (intOf i).toNat)
  case atStart => exact ⟨0, by omega, rfl, H0⟩
  case round =>
    clear c0 c1 c2 c3 c4 c5 c6 c7 c8 c9
    clear H0
    obtain ⟨k, hk, rfl, HP⟩ := hrel
    have HQr := Lib.hid (HQ1.out.below HP.out.2 HQ1.out.lt)
    have HWr := Lib.hid (HW1.out.trans (HP.out.2.mono HW1.out.size))
    have hzr := HP.out.2.size
    have q9 : wr.cell? ⟨w.heap.size, 9, none⟩ = some (.slice Kd ks.length ck) := HQr.out.cell 9
    by_cases hlt : k < ks.length
    · have hlt2 : (k : Int) < (ks.length : Int) := by omega
      obtain ⟨ad, us, hKe, hba, au, lu, cu⟩ := HKS.out k hlt
      subst hKe
      replace cu := cu.keep (w' := wr) (fun p hp => HWr.out.cell (by rw [hp, block_of_add]; exact hba))
      have HD := Lib.hid (fun (W : World) (hW : Below w.heap.size w W) => HA.out.down ks[k] (List.getElem_mem _) us W (atL_ltw au hW))
      have hocc := HA.out.occ ks[k] (List.getElem_mem _)
      have HX := Lib.hid (kids_takeR hlt)
      have HLK : Hid ((markF (QryP.oc ks[k]) ++ writeF numT ks[k]).length + 400 ≤ maxW) := Lib.hid (by have := kid_part (pc := ([] : List (List UInt8))) hlt; have := HLEN.out; omega)
      have HPL : Hid ((([] : List (List UInt8)) ++ (writeL numT ks).take k).length ≤ ks.length + 3) := Lib.hid (by rw [List.length_append, List.length_take, writeL_len]; simp only [List.length_cons, List.length_nil]; omega)
      have q0 : wr.cell? ⟨w.heap.size, 0, none⟩ = some (.int .i64 8) := HQr.out.cell 0
      generalize hq : ks[k] = q at *
      have HNX : Hid (∀ (W : World) (v : Value), Parts W1.heap.size W v ((([] : List (List UInt8)) ++ (writeL numT ks).take k) ++ [markF (QryP.oc q) ++ writeF numT q]) → Parts W1.heap.size W v (([] : List (List UInt8)) ++ (writeL numT ks).take (k + 1))) := Lib.hid (fun W v h => by rw [HX.out, ← List.append_assoc]; exact h)
      clear HX
      generalize ([] : List (List UInt8)) ++ (writeL numT ks).take k = PS at *
      obtain ⟨ao, ca, hao⟩ := HP.out.1.slice
      subst hao
      generalize hTX : writeF numT q = TX at *
      clear hTX
      obtain ⟨kd', oc', f', t', u', lo', hi', b', op', ks'⟩ := q
      obtain ⟨vl, vh, vk, rfl, hvl, hvh, hvk⟩ := at_cells au
      obtain ⟨B1, d1, rfl, _⟩ := at_ints hvl
      obtain ⟨B2, d2, rfl, _⟩ := at_ints hvh
      obtain ⟨B3, d3, rfl⟩ := at_sl hvk
      obtain ⟨a0, a1, a2, a3, a4, a5, a6, a7, a8, a9⟩ := ten cu
      have HCU := Lib.hid cu
      clear hq au hvl hvh hvk cu lu
      replace hocc : ((8 : Int) = 8 → 1 ≤ oc' ∧ oc' ≤ 4) ∧ ((8 : Int) ≠ 8 → oc' = 0) := hocc
      change Hid ((markF oc' ++ TX).length + 400 ≤ maxW) at HLK
      change Hid (∀ (W : World) (v : Value), Parts W1.heap.size W v (PS ++ [markF oc' ++ TX]) → Parts W1.heap.size W v (([] : List (List UInt8)) ++ (writeL numT ks).take (k + 1))) at HNX
      obtain ⟨hi1, hi2, hi3, hi4⟩ := HI.out
      obtain ⟨hj1, hj2, hj3, hj4⟩ := HJ.out
      have hoc : oc' = 1 ∨ oc' = 2 ∨ oc' = 3 ∨ oc' = 4 := by have := hocc.1 rfl; omega
      clear hocc
      rcases hoc with rfl | rfl | rfl | rfl
      · skip
        have hAw := (Below.refl wr.heap.size wr).alloc (Nat.le_refl _) (.cells #[.int .u8 43] 5)
        go_wp2_with (at_builtin; refine wpList_append_any _ rfl (.tmp 97) (.tmp 105) 43 rfl wr.heap.size 5 i0 (.int .u8 0) 1 1 Tryd.underlying43 hi1 hi2 hi3 hi4 rfl (by decide) (.slice none 0 0) 0 [] rfl (World.ownsRow_nil _ _ _ _) _ _ 1 1 [.int .u8 43] rfl (reads_new wr 5 [.int .u8 43] 1 rfl) (by intro y hy; simp only [List.mem_cons, List.not_mem_nil, or_false] at hy; subst hy; rfl) (by decide) (by decide) hAw.size ?_)
        intro v5 w5 ho5 hg5 _
        have hB5 : Below wr.heap.size wr w5 := hAw.grown hg5 hAw.size (fun r e => by cases e)
        have hW5 := HWr.out.trans (hB5.mono HWr.out.size)
        obtain ⟨A5, C5, hx5⟩ := own_slice ho5
        subst hx5
        have cu5 : Cells w5 (ad.add (k * 10)) [.int .i64 kd', .int .i64 _, .string f', .string t', .string u', .slice B1 lo'.length d1, .slice B2 hi'.length d2, .int .i64 b', .int .i64 op', .slice B3 ks'.length d3] := HCU.out.keep (fun p hp => hB5.cell (by rw [hp, block_of_add]; have := HWr.out.size; omega))
        have q9 : w5.cell? ⟨w.heap.size, 9, none⟩ = some (.slice (some ad) ks.length ck) := (HQr.out.below hB5 HQr.out.lt).cell 9
        have q0 := 0
        clear a0 a1 a2 a3 a4 a5 a6 a7 a8 a9 hAw hg5
        obtain ⟨a0, a1, a2, a3, a4, a5, a6, a7, a8, a9⟩ := ten cu5
        clear cu5
        go_wp2_with fail
        refine (HD.out _ hW5).mono ?_
        rintro e w2 ⟨x, rfl, ho, hb⟩
        obtain ⟨A6, C6, hx⟩ := ho.slice
        subst hx
        have hrd := ho.reads
        have hB2 : Below wr.heap.size wr w2 := hB5.trans (hb.mono hB5.size)
        have h6 : OwnX w2 wr.heap.size 5 1 (.slice A5 1 C5) 1 (Lib.byteCells ([43] : List UInt8)) := (OwnX.of (own_below ho5 hb))
        clear ho hb a0 a1 a2 a3 a4 a5 a6 a7 a8 a9 q9 q0 ho5 hB5 hW5
        have hlk : 1 + TX.length + 400 ≤ maxW := by have := HLK.out; first | (simpa [markF] using this) | (simp [markF] at this; omega)
        have hz2 := hB2.size
        go_wp2_with (at_builtin; refine wpList_appendX _ rfl (.tmp 107) (.tmp 113) 43 rfl wr.heap.size 5 i0 (.int .u8 0) 1 1 Tryd.underlying43 hi1 hi2 hi3 hi4 rfl (by decide) _ _ _ rfl h6 _ A6 TX.length C6 _ rfl hrd cells_one (by unfold maxLen; unfold maxW at hlk; omega) (by unfold maxW at hlk; omega) hz2 ?_)
        intro v7 w7 ho7 hg7 hv7
        have h7 : OwnX w7 wr.heap.size 5 1 v7 (([43] : List UInt8) ++ TX).length (Lib.byteCells (([43] : List UInt8) ++ TX)) := by
          have e : Lib.byteCells (([43] : List UInt8) ++ TX) = Lib.byteCells ([43] : List UInt8) ++ Lib.byteCells TX := by simp [Lib.byteCells]
          first | (rw [e, List.length_append]; exact ho7) | exact ho7
        have hB7 : Below wr.heap.size wr w7 := hB2.grown hg7 hz2 (fun r e => (h6.lt r e).1)
        have hE7 : Elt w7 W1.heap.size w7.heap.size v7 (([43] : List UInt8) ++ TX) := Elt.ofX h7 hzr
        obtain ⟨A7, C7, hx⟩ := hE7.slice
        subst hx
        have hPz := (HP.out.1.below hB7).below ((Below.refl _ w7).alloc (Nat.le_refl _) (.cells #[.slice A7 (([43] : List UInt8) ++ TX).length C7] 43))
        have hE8 := hE7.below ((Below.refl _ w7).alloc (Nat.le_refl _) (.cells #[.slice A7 (([43] : List UInt8) ++ TX).length C7] 43)) (Nat.le_refl _)
        obtain ⟨xs, hox, hxl, hxe⟩ := hPz
        have hRn := reads_new w7 43 [.slice A7 (([43] : List UInt8) ++ TX).length C7] 1 rfl
        have hB8 : Below W1.heap.size W1 (w7.alloc (.cells #[.slice A7 (([43] : List UInt8) ++ TX).length C7] 43)) := (HP.out.2.trans (hB7.mono hzr)).alloc (Nat.le_trans hzr hB7.size) _
        have hpl := HPL.out
        clear ho7 hg7 hv7 h6 hrd hlk hE7 h7 hB2
        go_wp2_with (at_builtin; refine wpList_append_any _ rfl (.tmp 115) (.tmp 117) 74 rfl W1.heap.size 43 j0 (.slice none 0 0) 1 24 Tryd.underlying74 hj1 hj2 hj3 hj4 rfl (by decide) _ _ _ rfl hox _ _ 1 1 [.slice A7 (([43] : List UInt8) ++ TX).length C7] rfl hRn (by intro y hy; simp only [List.mem_cons, List.not_mem_nil, or_false] at hy; subst hy; rfl) (by unfold maxLen; omega) (by omega) hB8.size ?_)
        intro v8 w8 ho8 hg8 _
        have HN : Hid (Parts W1.heap.size w8 v8 (([] : List (List UInt8)) ++ (writeL numT ks).take (k + 1)) ∧ Below W1.heap.size W1 w8) := Lib.hid ⟨HNX.out _ _ (parts_more (ps' := [([43] : List UInt8) ++ TX]) hox rfl (parts_one hxe hxl hE8) ho8 hg8), hB8.grown hg8 hB8.size (fun r e => (hox.lt r e).1)⟩
        clear ho8 hg8 hox hxe hxl hE8 hRn hB8 hi1 hi2 hi3 hi4 hj1 hj2 hj3 hj4 hB7
        go_wp2_with fail
        go_roundw
        case rel => exact ⟨k + 1, by omega, by go_num, HN⟩
        case measure => simp [intOf]; omega
      · skip
        have hAw := (Below.refl wr.heap.size wr).alloc (Nat.le_refl _) (.cells #[.int .u8 63] 5)
        go_wp2_with (at_builtin; refine wpList_append_any _ rfl (.tmp 97) (.tmp 105) 43 rfl wr.heap.size 5 i0 (.int .u8 0) 1 1 Tryd.underlying43 hi1 hi2 hi3 hi4 rfl (by decide) (.slice none 0 0) 0 [] rfl (World.ownsRow_nil _ _ _ _) _ _ 1 1 [.int .u8 63] rfl (reads_new wr 5 [.int .u8 63] 1 rfl) (by intro y hy; simp only [List.mem_cons, List.not_mem_nil, or_false] at hy; subst hy; rfl) (by decide) (by decide) hAw.size ?_)
        intro v5 w5 ho5 hg5 _
        have hB5 : Below wr.heap.size wr w5 := hAw.grown hg5 hAw.size (fun r e => by cases e)
        have hW5 := HWr.out.trans (hB5.mono HWr.out.size)
        obtain ⟨A5, C5, hx5⟩ := own_slice ho5
        subst hx5
        have cu5 : Cells w5 (ad.add (k * 10)) [.int .i64 kd', .int .i64 _, .string f', .string t', .string u', .slice B1 lo'.length d1, .slice B2 hi'.length d2, .int .i64 b', .int .i64 op', .slice B3 ks'.length d3] := HCU.out.keep (fun p hp => hB5.cell (by rw [hp, block_of_add]; have := HWr.out.size; omega))
        have q9 : w5.cell? ⟨w.heap.size, 9, none⟩ = some (.slice (some ad) ks.length ck) := (HQr.out.below hB5 HQr.out.lt).cell 9
        have q0 := 0
        clear a0 a1 a2 a3 a4 a5 a6 a7 a8 a9 hAw hg5
        obtain ⟨a0, a1, a2, a3, a4, a5, a6, a7, a8, a9⟩ := ten cu5
        clear cu5
        go_wp2_with fail
        refine (HD.out _ hW5).mono ?_
        rintro e w2 ⟨x, rfl, ho, hb⟩
        obtain ⟨A6, C6, hx⟩ := ho.slice
        subst hx
        have hrd := ho.reads
        have hB2 : Below wr.heap.size wr w2 := hB5.trans (hb.mono hB5.size)
        have h6 : OwnX w2 wr.heap.size 5 1 (.slice A5 1 C5) 1 (Lib.byteCells ([63] : List UInt8)) := (OwnX.of (own_below ho5 hb))
        clear ho hb a0 a1 a2 a3 a4 a5 a6 a7 a8 a9 q9 q0 ho5 hB5 hW5
        have hlk : 1 + TX.length + 400 ≤ maxW := by have := HLK.out; first | (simpa [markF] using this) | (simp [markF] at this; omega)
        have hz2 := hB2.size
        go_wp2_with (at_builtin; refine wpList_appendX _ rfl (.tmp 107) (.tmp 113) 43 rfl wr.heap.size 5 i0 (.int .u8 0) 1 1 Tryd.underlying43 hi1 hi2 hi3 hi4 rfl (by decide) _ _ _ rfl h6 _ A6 TX.length C6 _ rfl hrd cells_one (by unfold maxLen; unfold maxW at hlk; omega) (by unfold maxW at hlk; omega) hz2 ?_)
        intro v7 w7 ho7 hg7 hv7
        have h7 : OwnX w7 wr.heap.size 5 1 v7 (([63] : List UInt8) ++ TX).length (Lib.byteCells (([63] : List UInt8) ++ TX)) := by
          have e : Lib.byteCells (([63] : List UInt8) ++ TX) = Lib.byteCells ([63] : List UInt8) ++ Lib.byteCells TX := by simp [Lib.byteCells]
          first | (rw [e, List.length_append]; exact ho7) | exact ho7
        have hB7 : Below wr.heap.size wr w7 := hB2.grown hg7 hz2 (fun r e => (h6.lt r e).1)
        have hE7 : Elt w7 W1.heap.size w7.heap.size v7 (([63] : List UInt8) ++ TX) := Elt.ofX h7 hzr
        obtain ⟨A7, C7, hx⟩ := hE7.slice
        subst hx
        have hPz := (HP.out.1.below hB7).below ((Below.refl _ w7).alloc (Nat.le_refl _) (.cells #[.slice A7 (([63] : List UInt8) ++ TX).length C7] 43))
        have hE8 := hE7.below ((Below.refl _ w7).alloc (Nat.le_refl _) (.cells #[.slice A7 (([63] : List UInt8) ++ TX).length C7] 43)) (Nat.le_refl _)
        obtain ⟨xs, hox, hxl, hxe⟩ := hPz
        have hRn := reads_new w7 43 [.slice A7 (([63] : List UInt8) ++ TX).length C7] 1 rfl
        have hB8 : Below W1.heap.size W1 (w7.alloc (.cells #[.slice A7 (([63] : List UInt8) ++ TX).length C7] 43)) := (HP.out.2.trans (hB7.mono hzr)).alloc (Nat.le_trans hzr hB7.size) _
        have hpl := HPL.out
        clear ho7 hg7 hv7 h6 hrd hlk hE7 h7 hB2
        go_wp2_with (at_builtin; refine wpList_append_any _ rfl (.tmp 115) (.tmp 117) 74 rfl W1.heap.size 43 j0 (.slice none 0 0) 1 24 Tryd.underlying74 hj1 hj2 hj3 hj4 rfl (by decide) _ _ _ rfl hox _ _ 1 1 [.slice A7 (([63] : List UInt8) ++ TX).length C7] rfl hRn (by intro y hy; simp only [List.mem_cons, List.not_mem_nil, or_false] at hy; subst hy; rfl) (by unfold maxLen; omega) (by omega) hB8.size ?_)
        intro v8 w8 ho8 hg8 _
        have HN : Hid (Parts W1.heap.size w8 v8 (([] : List (List UInt8)) ++ (writeL numT ks).take (k + 1)) ∧ Below W1.heap.size W1 w8) := Lib.hid ⟨HNX.out _ _ (parts_more (ps' := [([63] : List UInt8) ++ TX]) hox rfl (parts_one hxe hxl hE8) ho8 hg8), hB8.grown hg8 hB8.size (fun r e => (hox.lt r e).1)⟩
        clear ho8 hg8 hox hxe hxl hE8 hRn hB8 hi1 hi2 hi3 hi4 hj1 hj2 hj3 hj4 hB7
        go_wp2_with fail
        go_roundw
        case rel => exact ⟨k + 1, by omega, by go_num, HN⟩
        case measure => simp [intOf]; omega
      · skip
        have hAw := (Below.refl wr.heap.size wr).alloc (Nat.le_refl _) (.cells #[.int .u8 45] 5)
        go_wp2_with (at_builtin; refine wpList_append_any _ rfl (.tmp 97) (.tmp 105) 43 rfl wr.heap.size 5 i0 (.int .u8 0) 1 1 Tryd.underlying43 hi1 hi2 hi3 hi4 rfl (by decide) (.slice none 0 0) 0 [] rfl (World.ownsRow_nil _ _ _ _) _ _ 1 1 [.int .u8 45] rfl (reads_new wr 5 [.int .u8 45] 1 rfl) (by intro y hy; simp only [List.mem_cons, List.not_mem_nil, or_false] at hy; subst hy; rfl) (by decide) (by decide) hAw.size ?_)
        intro v5 w5 ho5 hg5 _
        have hB5 : Below wr.heap.size wr w5 := hAw.grown hg5 hAw.size (fun r e => by cases e)
        have hW5 := HWr.out.trans (hB5.mono HWr.out.size)
        obtain ⟨A5, C5, hx5⟩ := own_slice ho5
        subst hx5
        have cu5 : Cells w5 (ad.add (k * 10)) [.int .i64 kd', .int .i64 _, .string f', .string t', .string u', .slice B1 lo'.length d1, .slice B2 hi'.length d2, .int .i64 b', .int .i64 op', .slice B3 ks'.length d3] := HCU.out.keep (fun p hp => hB5.cell (by rw [hp, block_of_add]; have := HWr.out.size; omega))
        have q9 : w5.cell? ⟨w.heap.size, 9, none⟩ = some (.slice (some ad) ks.length ck) := (HQr.out.below hB5 HQr.out.lt).cell 9
        have q0 := 0
        clear a0 a1 a2 a3 a4 a5 a6 a7 a8 a9 hAw hg5
        obtain ⟨a0, a1, a2, a3, a4, a5, a6, a7, a8, a9⟩ := ten cu5
        clear cu5
        go_wp2_with fail
        refine (HD.out _ hW5).mono ?_
        rintro e w2 ⟨x, rfl, ho, hb⟩
        obtain ⟨A6, C6, hx⟩ := ho.slice
        subst hx
        have hrd := ho.reads
        have hB2 : Below wr.heap.size wr w2 := hB5.trans (hb.mono hB5.size)
        have h6 : OwnX w2 wr.heap.size 5 1 (.slice A5 1 C5) 1 (Lib.byteCells ([45] : List UInt8)) := (OwnX.of (own_below ho5 hb))
        clear ho hb a0 a1 a2 a3 a4 a5 a6 a7 a8 a9 q9 q0 ho5 hB5 hW5
        have hlk : 1 + TX.length + 400 ≤ maxW := by have := HLK.out; first | (simpa [markF] using this) | (simp [markF] at this; omega)
        have hz2 := hB2.size
        go_wp2_with (at_builtin; refine wpList_appendX _ rfl (.tmp 107) (.tmp 113) 43 rfl wr.heap.size 5 i0 (.int .u8 0) 1 1 Tryd.underlying43 hi1 hi2 hi3 hi4 rfl (by decide) _ _ _ rfl h6 _ A6 TX.length C6 _ rfl hrd cells_one (by unfold maxLen; unfold maxW at hlk; omega) (by unfold maxW at hlk; omega) hz2 ?_)
        intro v7 w7 ho7 hg7 hv7
        have h7 : OwnX w7 wr.heap.size 5 1 v7 (([45] : List UInt8) ++ TX).length (Lib.byteCells (([45] : List UInt8) ++ TX)) := by
          have e : Lib.byteCells (([45] : List UInt8) ++ TX) = Lib.byteCells ([45] : List UInt8) ++ Lib.byteCells TX := by simp [Lib.byteCells]
          first | (rw [e, List.length_append]; exact ho7) | exact ho7
        have hB7 : Below wr.heap.size wr w7 := hB2.grown hg7 hz2 (fun r e => (h6.lt r e).1)
        have hE7 : Elt w7 W1.heap.size w7.heap.size v7 (([45] : List UInt8) ++ TX) := Elt.ofX h7 hzr
        obtain ⟨A7, C7, hx⟩ := hE7.slice
        subst hx
        have hPz := (HP.out.1.below hB7).below ((Below.refl _ w7).alloc (Nat.le_refl _) (.cells #[.slice A7 (([45] : List UInt8) ++ TX).length C7] 43))
        have hE8 := hE7.below ((Below.refl _ w7).alloc (Nat.le_refl _) (.cells #[.slice A7 (([45] : List UInt8) ++ TX).length C7] 43)) (Nat.le_refl _)
        obtain ⟨xs, hox, hxl, hxe⟩ := hPz
        have hRn := reads_new w7 43 [.slice A7 (([45] : List UInt8) ++ TX).length C7] 1 rfl
        have hB8 : Below W1.heap.size W1 (w7.alloc (.cells #[.slice A7 (([45] : List UInt8) ++ TX).length C7] 43)) := (HP.out.2.trans (hB7.mono hzr)).alloc (Nat.le_trans hzr hB7.size) _
        have hpl := HPL.out
        clear ho7 hg7 hv7 h6 hrd hlk hE7 h7 hB2
        go_wp2_with (at_builtin; refine wpList_append_any _ rfl (.tmp 115) (.tmp 117) 74 rfl W1.heap.size 43 j0 (.slice none 0 0) 1 24 Tryd.underlying74 hj1 hj2 hj3 hj4 rfl (by decide) _ _ _ rfl hox _ _ 1 1 [.slice A7 (([45] : List UInt8) ++ TX).length C7] rfl hRn (by intro y hy; simp only [List.mem_cons, List.not_mem_nil, or_false] at hy; subst hy; rfl) (by unfold maxLen; omega) (by omega) hB8.size ?_)
        intro v8 w8 ho8 hg8 _
        have HN : Hid (Parts W1.heap.size w8 v8 (([] : List (List UInt8)) ++ (writeL numT ks).take (k + 1)) ∧ Below W1.heap.size W1 w8) := Lib.hid ⟨HNX.out _ _ (parts_more (ps' := [([45] : List UInt8) ++ TX]) hox rfl (parts_one hxe hxl hE8) ho8 hg8), hB8.grown hg8 hB8.size (fun r e => (hox.lt r e).1)⟩
        clear ho8 hg8 hox hxe hxl hE8 hRn hB8 hi1 hi2 hi3 hi4 hj1 hj2 hj3 hj4 hB7
        go_wp2_with fail
        go_roundw
        case rel => exact ⟨k + 1, by omega, by go_num, HN⟩
        case measure => simp [intOf]; omega
      · skip
        have hAw := (Below.refl wr.heap.size wr).alloc (Nat.le_refl _) (.cells #[.int .u8 61] 5)
        go_wp2_with (at_builtin; refine wpList_append_any _ rfl (.tmp 97) (.tmp 105) 43 rfl wr.heap.size 5 i0 (.int .u8 0) 1 1 Tryd.underlying43 hi1 hi2 hi3 hi4 rfl (by decide) (.slice none 0 0) 0 [] rfl (World.ownsRow_nil _ _ _ _) _ _ 1 1 [.int .u8 61] rfl (reads_new wr 5 [.int .u8 61] 1 rfl) (by intro y hy; simp only [List.mem_cons, List.not_mem_nil, or_false] at hy; subst hy; rfl) (by decide) (by decide) hAw.size ?_)
        intro v5 w5 ho5 hg5 _
        have hB5 : Below wr.heap.size wr w5 := hAw.grown hg5 hAw.size (fun r e => by cases e)
        have hW5 := HWr.out.trans (hB5.mono HWr.out.size)
        obtain ⟨A5, C5, hx5⟩ := own_slice ho5
        subst hx5
        have cu5 : Cells w5 (ad.add (k * 10)) [.int .i64 kd', .int .i64 _, .string f', .string t', .string u', .slice B1 lo'.length d1, .slice B2 hi'.length d2, .int .i64 b', .int .i64 op', .slice B3 ks'.length d3] := HCU.out.keep (fun p hp => hB5.cell (by rw [hp, block_of_add]; have := HWr.out.size; omega))
        have q9 : w5.cell? ⟨w.heap.size, 9, none⟩ = some (.slice (some ad) ks.length ck) := (HQr.out.below hB5 HQr.out.lt).cell 9
        have q0 := 0
        clear a0 a1 a2 a3 a4 a5 a6 a7 a8 a9 hAw hg5
        obtain ⟨a0, a1, a2, a3, a4, a5, a6, a7, a8, a9⟩ := ten cu5
        clear cu5
        go_wp2_with fail
        refine (HD.out _ hW5).mono ?_
        rintro e w2 ⟨x, rfl, ho, hb⟩
        obtain ⟨A6, C6, hx⟩ := ho.slice
        subst hx
        have hrd := ho.reads
        have hB2 : Below wr.heap.size wr w2 := hB5.trans (hb.mono hB5.size)
        have h6 : OwnX w2 wr.heap.size 5 1 (.slice A5 1 C5) 1 (Lib.byteCells ([61] : List UInt8)) := (OwnX.of (own_below ho5 hb))
        clear ho hb a0 a1 a2 a3 a4 a5 a6 a7 a8 a9 q9 q0 ho5 hB5 hW5
        have hlk : 1 + TX.length + 400 ≤ maxW := by have := HLK.out; first | (simpa [markF] using this) | (simp [markF] at this; omega)
        have hz2 := hB2.size
        go_wp2_with (at_builtin; refine wpList_appendX _ rfl (.tmp 107) (.tmp 113) 43 rfl wr.heap.size 5 i0 (.int .u8 0) 1 1 Tryd.underlying43 hi1 hi2 hi3 hi4 rfl (by decide) _ _ _ rfl h6 _ A6 TX.length C6 _ rfl hrd cells_one (by unfold maxLen; unfold maxW at hlk; omega) (by unfold maxW at hlk; omega) hz2 ?_)
        intro v7 w7 ho7 hg7 hv7
        have h7 : OwnX w7 wr.heap.size 5 1 v7 (([61] : List UInt8) ++ TX).length (Lib.byteCells (([61] : List UInt8) ++ TX)) := by
          have e : Lib.byteCells (([61] : List UInt8) ++ TX) = Lib.byteCells ([61] : List UInt8) ++ Lib.byteCells TX := by simp [Lib.byteCells]
          first | (rw [e, List.length_append]; exact ho7) | exact ho7
        have hB7 : Below wr.heap.size wr w7 := hB2.grown hg7 hz2 (fun r e => (h6.lt r e).1)
        have hE7 : Elt w7 W1.heap.size w7.heap.size v7 (([61] : List UInt8) ++ TX) := Elt.ofX h7 hzr
        obtain ⟨A7, C7, hx⟩ := hE7.slice
        subst hx
        have hPz := (HP.out.1.below hB7).below ((Below.refl _ w7).alloc (Nat.le_refl _) (.cells #[.slice A7 (([61] : List UInt8) ++ TX).length C7] 43))
        have hE8 := hE7.below ((Below.refl _ w7).alloc (Nat.le_refl _) (.cells #[.slice A7 (([61] : List UInt8) ++ TX).length C7] 43)) (Nat.le_refl _)
        obtain ⟨xs, hox, hxl, hxe⟩ := hPz
        have hRn := reads_new w7 43 [.slice A7 (([61] : List UInt8) ++ TX).length C7] 1 rfl
        have hB8 : Below W1.heap.size W1 (w7.alloc (.cells #[.slice A7 (([61] : List UInt8) ++ TX).length C7] 43)) := (HP.out.2.trans (hB7.mono hzr)).alloc (Nat.le_trans hzr hB7.size) _
        have hpl := HPL.out
        clear ho7 hg7 hv7 h6 hrd hlk hE7 h7 hB2
        go_wp2_with (at_builtin; refine wpList_append_any _ rfl (.tmp 115) (.tmp 117) 74 rfl W1.heap.size 43 j0 (.slice none 0 0) 1 24 Tryd.underlying74 hj1 hj2 hj3 hj4 rfl (by decide) _ _ _ rfl hox _ _ 1 1 [.slice A7 (([61] : List UInt8) ++ TX).length C7] rfl hRn (by intro y hy; simp only [List.mem_cons, List.not_mem_nil, or_false] at hy; subst hy; rfl) (by unfold maxLen; omega) (by omega) hB8.size ?_)
        intro v8 w8 ho8 hg8 _
        have HN : Hid (Parts W1.heap.size w8 v8 (([] : List (List UInt8)) ++ (writeL numT ks).take (k + 1)) ∧ Below W1.heap.size W1 w8) := Lib.hid ⟨HNX.out _ _ (parts_more (ps' := [([61] : List UInt8) ++ TX]) hox rfl (parts_one hxe hxl hE8) ho8 hg8), hB8.grown hg8 hB8.size (fun r e => (hox.lt r e).1)⟩
        clear ho8 hg8 hox hxe hxl hE8 hRn hB8 hi1 hi2 hi3 hi4 hj1 hj2 hj3 hj4 hB7
        go_wp2_with fail
        go_roundw
        case rel => exact ⟨k + 1, by omega, by go_num, HN⟩
        case measure => simp [intOf]; omega
    · obtain rfl : k = ks.length := by omega
      obtain ⟨wo, hwo⟩ : ∃ wo : World, wo = wr := ⟨_, rfl⟩
      subst hwo
      have hall : (writeL numT ks).take ks.length = writeL numT ks := List.take_of_length_le (by rw [writeL_len]; exact Nat.le_refl _)
      rw [hall] at HP
      generalize hPS : ([] : List (List UInt8)) ++ writeL numT ks = PS at *
      obtain ⟨ao, ca, hao⟩ := HP.out.1.slice
      subst hao
      have HPL : Hid (PS.length ≤ ks.length + 3) := Lib.hid (by rw [← hPS, List.length_append, writeL_len]; simp only [List.length_cons, List.length_nil]; omega)
      have HPS := Lib.hid hPS
      clear hall hPS HKS
      obtain ⟨hi1, hi2, hi3, hi4⟩ := HI.out
      have HJ0 : Hid (Jn W1.heap.size wo w (wordF 8) (.slice ab (wordF 8).length cb) wo) := Lib.hid ⟨HB.out.below HP.out.2 (Nat.le_refl _), fun g e => .inl (HBl.out g e), HWr.out, fun g _ _ => rfl, Nat.le_refl _, HWr.out.size⟩
      have HJ1 := Lib.hid (HJ0.out.alloc (.cells #[.int .u8 40] 5))
      have hpl := HPL.out
      have hlen0 := HLEN.out
      unfold maxW at hlen0
      rw [List.length_append, show ([40] : List UInt8).length = 1 from rfl] at hlen0
      go_wp2_with (at_builtin; refine wpList_appendX _ rfl (.tmp 119) (.tmp 120) 43 rfl w.heap.size 5 i0 (.int .u8 0) 1 1 Tryd.underlying43 hi1 hi2 hi3 hi4 rfl (by decide) _ _ _ rfl HJ1.out.own _ _ 1 1 [.int .u8 40] rfl (reads_new wo 5 [.int .u8 40] 1 rfl) (by intro y hy; simp only [List.mem_cons, List.not_mem_nil, or_false] at hy; subst hy; rfl) (by unfold maxLen; omega) (by omega) HJ1.out.base ?_)
      intro vb w3 ho3 hg3 hv3
      have HJ2 : Hid (Jn W1.heap.size wo w (wordF 8 ++ [40] ++ joinF [44, 32] (PS.take 0)) vb w3) := Lib.hid (by rw [List.take_zero, joinF, List.append_nil]; exact HJ1.out.app (p := [40]) ho3 hg3 (hv3.imp (fun h => h) (fun h => by rw [h]; simp)))
      clear ho3 hg3 hv3 HJ0 HJ1 q9 hi1 hi2 hi3 hi4
      have hpm : PS.length ≤ 9223372036854775807 := by omega
      go_wp2_with fail
      go_loopw [3, 7] (fun v i wz => ∃ j : Nat, j ≤ PS.length ∧ i = .int .i64 j ∧ Hid (Jn W1.heap.size wo w (wordF 8 ++ [40] ++ joinF [44, 32] (PS.take j)) v wz)) (fun _ i _ => PS.length - (intOf i).toNat)
      case atStart => exact ⟨0, by omega, rfl, HJ2⟩
      case round =>
        clear HJ2
        obtain ⟨j, hj, rfl, HN⟩ := hrel
        obtain ⟨ab3, cb3, hab3⟩ := HN.out.own.slice
        subst hab3
        obtain ⟨hi1, hi2, hi3, hi4⟩ := HI.out
        by_cases hjl : j < PS.length
        · have hjl2 : (j : Int) < (PS.length : Int) := by omega
          obtain ⟨g4, x4, B4, m4, hA4, _, hc4, hr4⟩ := parts_at HP.out.1 HN.out hjl
          subst hA4
          have HJT := Lib.hid (join_take hjl)
          have hle := join_le PS (j + 1)
          generalize hpj : PS[j] = pj at *
          have HPJ := Lib.hid hpj
          clear hpj
          by_cases h0 : j = 0
          · have d0 : decide (0 < j) = false := decide_eq_false (by omega)
            have HE : Hid (wordF 8 ++ [40] ++ joinF [44, 32] (PS.take (j + 1)) = (wordF 8 ++ [40] ++ joinF [44, 32] (PS.take j)) ++ pj) := Lib.hid (by rw [HJT.out, if_pos h0, h0]; simp [joinF])
            have hlx : (wordF 8 ++ [40] ++ joinF [44, 32] (PS.take j)).length + pj.length + 100 ≤ 140737488355328 := by
              have h2 := congrArg List.length HE.out
              rw [List.length_append, List.length_append, List.length_append (bs := pj), show ([40] : List UInt8).length = 1 from rfl] at h2
              omega
            clear HJT h0 hle
            generalize wordF 8 ++ [40] ++ joinF [44, 32] (PS.take j) = LJ at *
            go_wp2_with (at_builtin; refine wpList_appendX _ rfl (.tmp 133) (.tmp 137) 43 rfl w.heap.size 5 i0 (.int .u8 0) 1 1 Tryd.underlying43 hi1 hi2 hi3 hi4 rfl (by decide) _ _ _ rfl HN.out.own _ x4 pj.length m4 _ rfl hr4 cells_one (by unfold maxLen; omega) (by omega) HN.out.base ?_)
            intro v5 w5 ho5 hg5 hv5
            have HN5 : Hid (Jn W1.heap.size wo w (wordF 8 ++ [40] ++ joinF [44, 32] (PS.take (j + 1))) v5 w5) := Lib.hid (by rw [HE.out]; exact HN.out.app ho5 hg5 hv5)
            clear ho5 hg5 hv5 hc4 hr4 hi1 hi2 hi3 hi4
            go_wp2_with fail
            go_roundw
            case rel => exact ⟨j + 1, by omega, by go_num, HN5⟩
            case measure => simp [intOf]; omega
          · have d0 : decide (0 < j) = true := decide_eq_true (by omega)
            have HE : Hid (wordF 8 ++ [40] ++ joinF [44, 32] (PS.take (j + 1)) = ((wordF 8 ++ [40] ++ joinF [44, 32] (PS.take j)) ++ [44, 32]) ++ pj) := Lib.hid (by rw [HJT.out, if_neg h0]; simp)
            have hlx : (wordF 8 ++ [40] ++ joinF [44, 32] (PS.take j)).length + 2 + pj.length + 100 ≤ 140737488355328 := by
              have h2 := congrArg List.length HE.out
              rw [List.length_append, List.length_append, List.length_append (bs := pj), List.length_append (bs := [44, 32]), show ([40] : List UInt8).length = 1 from rfl, show ([44, 32] : List UInt8).length = 2 from rfl] at h2
              omega
            clear HJT h0 hle
            generalize wordF 8 ++ [40] ++ joinF [44, 32] (PS.take j) = LJ at *
            have HNa := Lib.hid (HN.out.alloc (.cells #[.int .u8 44, .int .u8 32] 5))
            clear hc4 hr4
            go_wp2_with (at_builtin; refine wpList_appendX _ rfl (.tmp 130) (.tmp 131) 43 rfl w.heap.size 5 i0 (.int .u8 0) 1 1 Tryd.underlying43 hi1 hi2 hi3 hi4 rfl (by decide) _ _ _ rfl HNa.out.own _ _ 2 2 [.int .u8 44, .int .u8 32] rfl (reads_new wr 5 [.int .u8 44, .int .u8 32] 2 rfl) (by intro y hy; simp only [List.mem_cons, List.not_mem_nil, or_false] at hy; rcases hy with rfl | rfl <;> rfl) (by unfold maxLen; omega) (by omega) HNa.out.base ?_)
            intro v4' w4 ho4 hg4 hv4
            have HN4 : Hid (Jn W1.heap.size wo w (LJ ++ [44, 32]) v4' w4) := Lib.hid (HNa.out.app (p := [44, 32]) ho4 hg4 (hv4.imp (fun h => h) (fun h => by rw [h]; simp)))
            clear ho4 hg4 hv4 HNa
            obtain ⟨ab4, cb4, hab4⟩ := HN4.out.own.slice
            subst hab4
            obtain ⟨g5, x5, B5, m5, hA5, _, hc5, hr5⟩ := parts_at HP.out.1 HN4.out hjl
            injection hA5 with hA5
            injection hA5 with hA5
            subst hA5
            rw [HPJ.out] at hc5 hr5
            have hlx2 : (LJ ++ [44, 32]).length + pj.length + 100 ≤ 140737488355328 := by rw [List.length_append, show ([44, 32] : List UInt8).length = 2 from rfl]; omega
            generalize LJ ++ [44, 32] = LJ2 at *
            go_wp2_with (at_builtin; refine wpList_appendX _ rfl (.tmp 133) (.tmp 137) 43 rfl w.heap.size 5 i0 (.int .u8 0) 1 1 Tryd.underlying43 hi1 hi2 hi3 hi4 rfl (by decide) _ _ _ rfl HN4.out.own _ x5 pj.length m5 _ rfl hr5 cells_one (by unfold maxLen; omega) (by omega) HN4.out.base ?_)
            intro v5 w5 ho5 hg5 hv5
            have HN5 : Hid (Jn W1.heap.size wo w (wordF 8 ++ [40] ++ joinF [44, 32] (PS.take (j + 1))) v5 w5) := Lib.hid (by rw [HE.out]; exact HN4.out.app ho5 hg5 hv5)
            clear ho5 hg5 hv5 hc5 hr5 hi1 hi2 hi3 hi4
            go_wp2_with fail
            go_roundw
            case rel => exact ⟨j + 1, by omega, by go_num, HN5⟩
            case measure => simp [intOf]; omega
        · obtain rfl : j = PS.length := by omega
          have hle : (wordF 8 ++ [40] ++ joinF [44, 32] (PS.take PS.length)).length + 100 ≤ 140737488355328 := by
            rw [List.take_length, List.length_append, List.length_append, show ([40] : List UInt8).length = 1 from rfl]
            omega
          have HE : Hid (writeF numT (.mk 8 oc f t u lo hi bo op ks) = (wordF 8 ++ [40] ++ joinF [44, 32] (PS.take PS.length)) ++ [41]) := Lib.hid (by rw [HWF.out, List.take_length]; simp)
          have HNa := Lib.hid (HN.out.alloc (.cells #[.int .u8 41] 5))
          generalize wordF 8 ++ [40] ++ joinF [44, 32] (PS.take PS.length) = LJ at *
          go_wp2_with (at_builtin; refine wpList_appendX _ rfl (.tmp 139) (.tmp 140) 43 rfl w.heap.size 5 i0 (.int .u8 0) 1 1 Tryd.underlying43 hi1 hi2 hi3 hi4 rfl (by decide) _ _ _ rfl HNa.out.own _ _ 1 1 [.int .u8 41] rfl (reads_new wr 5 [.int .u8 41] 1 rfl) (by intro y hy; simp only [List.mem_cons, List.not_mem_nil, or_false] at hy; subst hy; rfl) (by unfold maxLen; omega) (by omega) HNa.out.base ?_)
          intro v5 w5 ho5 hg5 hv5
          have HN5 : Hid (Jn W1.heap.size wo w (LJ ++ [41]) v5 w5) := Lib.hid (HNa.out.app (p := [41]) ho5 hg5 (hv5.imp (fun h => h) (fun h => by rw [h]; simp)))
          clear ho5 hg5 hv5 hi1 hi2 hi3 hi4 HNa
          go_wp2_with fail
          go_ret
          exact ⟨_, rfl, by rw [HE.out]; exact HN5.out.own, HN5.out.below⟩
set_option maxRecDepth 100000 in
set_option maxHeartbeats 16000000 in
theorem rwrite_9 (h : RAsk 9 oc f t u lo hi bo op ks L Hh Kd ck w) :
    Calls Tryd.prog 28 #[.agg #[.int .i64 9, .int .i64 oc, .string f, .string t, .string u, .slice L lo.length cl, .slice Hh hi.length ch, .int .i64 bo, .int .i64 op, .slice Kd ks.length ck]] w (RowBX (writeF numT (.mk 9 oc f t u lo hi bo op ks)) w) := by
  have HA := Lib.hid h
  obtain ⟨i0, hi1, hi2, hi3, hi4⟩ := info_parts infoU8
  obtain ⟨j0, hj1, hj2, hj3, hj4⟩ := info_parts infoS8
  have HI := Lib.hid (And.intro hi1 (And.intro hi2 (And.intro hi3 hi4)))
  have HJ := Lib.hid (And.intro hj1 (And.intro hj2 (And.intro hj3 hj4)))
  clear hi1 hi2 hi3 hi4 hj1 hj2 hj3 hj4
  have HOK : Hid (f.size ≤ 140737488351232 ∧ t.size ≤ 140737488351232 ∧ u.size ≤ 140737488351232 ∧ (lo.length * 8 ≤ 140737488351232 ∧ ∀ z ∈ lo, I64 z) ∧ (hi.length * 8 ≤ 140737488351232 ∧ ∀ z ∈ hi, I64 z) ∧ I64 bo ∧ ks.length * 152 ≤ 140737488351232) := Lib.hid (by
    cases h.ok with
    | mk _ _ a1 a2 a3 a4 a5 a6 _ a7 _ => exact ⟨a1, a2, a3, a4, a5, a6, a7⟩)
  have hW : writeF numT (.mk 9 oc f t u lo hi bo op ks) = wordF 9 ++ 40 :: (joinF [44, 32] ([numsF numT [bo]] ++ writeL numT ks) ++ [41]) := by
    rw [writeF, if_neg (by decide)]; rfl
  have HWF := Lib.hid hW
  have HLEN : Hid ((wordF 9 ++ [40]).length + (joinF [44, 32] ([numsF numT [bo]] ++ writeL numT ks)).length + 401 ≤ maxW) := Lib.hid (by
    have := h.len
    rw [hW] at this
    simp only [List.length_append, List.length_cons, List.length_nil] at *
    omega)
  clear hW
  clear h
  go_enter Tryd.func28, Tryd.ntmps28
  go_upto_region 1 with fail
  have HQ0 := Lib.hid (Blk.new w 25 #[.int .i64 9, .int .i64 oc, .string f, .string t, .string u, .slice L lo.length cl, .slice Hh hi.length ch, .int .i64 bo, .int .i64 op, .slice Kd ks.length ck])
  have HW0 := Lib.hid ((Below.refl _ w).alloc (Nat.le_refl _) (.cells #[.int .i64 9, .int .i64 oc, .string f, .string t, .string u, .slice L lo.length cl, .slice Hh hi.length ch, .int .i64 bo, .int .i64 op, .slice Kd ks.length ck] 25))
  have hz0 : (w.alloc (.cells #[.int .i64 9, .int .i64 oc, .string f, .string t, .string u, .slice L lo.length cl, .slice Hh hi.length ch, .int .i64 bo, .int .i64 op, .slice Kd ks.length ck] 25)).heap.size = w.heap.size + 1 := by simp
  generalize (w.alloc (.cells #[.int .i64 9, .int .i64 oc, .string f, .string t, .string u, .slice L lo.length cl, .slice Hh hi.length ch, .int .i64 bo, .int .i64 op, .slice Kd ks.length ck] 25)) = W0 at *
  refine wp_region_held_drew (S := fun V => Below W0.heap.size W0 V) (by kernel_rfl) (Below.refl _ W0).drew (fun hSd0 => ?_)
  refine' wpAnyH_take (i := 1) (v := _) (by simp only [List.getElem?_toArray, List.getElem?_cons_succ, List.getElem?_cons_zero]; rfl) (by kernel_rfl) (by kernel_rfl) (by kernel_rfl) (by exact fun _ _ _ h => h) (Or.inl ⟨by rfl, ?hyd1⟩) hSd0 ?restd1
  case hyd1 => intro V hSw; clear hSw; go_simp; try with_reducible rfl
  try simp only [Act.put, List.setIfInBounds_toArray, List.set_cons_zero, List.set_cons_succ]
  refine' wpAnyH_take (i := 2) (v := _) (by simp only [List.getElem?_toArray, List.getElem?_cons_succ, List.getElem?_cons_zero]; rfl) (by kernel_rfl) (by kernel_rfl) (by kernel_rfl) (by exact fun _ _ _ h => h) (Or.inl ⟨by rfl, ?hyd2⟩) hSd0 ?restd2
  case hyd2 => intro V hSw; have fq := (HQ0.out.below hSw HQ0.out.lt).cell 0; clear hSw; go_simp; try with_reducible rfl
  try simp only [Act.put, List.setIfInBounds_toArray, List.set_cons_zero, List.set_cons_succ]
  refine wpAnyH_ready (rs := [0]) (by kernel_rfl) (by simp) ?_
  refine' AllReadyH.cons (by simp only [List.getElem?_toArray, List.getElem?_cons_zero]; rfl) (fun KC hK => ?_) AllReadyH.nil
  go_simp
  refine (rwords_any _).mono ?_
  rintro e V1 ⟨rfl, hb, hc⟩
  have hc : V1.cell? ⟨w.heap.size + 1, 9, none⟩ = some (.string (str (wordF 9))) := by rw [← hz0]; exact hc 9 (by decide) (by decide)
  have hs1 : Below W0.heap.size W0 V1 := hSd0.trans (hb.mono hSd0.size)
  clear hb
  go_simp
  refine hK.out _ _ hs1 (fun hSd1 => ?_)
  clear hK hs1
  try simp only [Act.put, List.setIfInBounds_toArray, List.set_cons_zero, List.set_cons_succ]
  refine' wpAnyH_take (i := 3) (v := _) (by simp only [List.getElem?_toArray, List.getElem?_cons_succ, List.getElem?_cons_zero]; rfl) (by kernel_rfl) (by kernel_rfl) (by kernel_rfl) (by exact fun _ _ _ h => h) (Or.inl ⟨by rfl, ?hyd3⟩) hSd1 ?restd3
  case hyd3 => intro V hSw; clear hSw; go_simp; try with_reducible rfl
  try simp only [Act.put, List.setIfInBounds_toArray, List.set_cons_zero, List.set_cons_succ]
  refine wpAnyH_ready (rs := [4]) (by kernel_rfl) (by simp) ?_
  refine' AllReadyH.cons (by simp only [List.getElem?_toArray, List.getElem?_cons_succ, List.getElem?_cons_zero]; rfl) (fun KC hK => ?_) AllReadyH.nil
  go_simp
  refine hK.out _ _ hSd1 (fun hSd2 => ?_)
  clear hK
  try simp only [Act.put, List.setIfInBounds_toArray, List.set_cons_zero, List.set_cons_succ]
  refine wpAnyH_ready (rs := [5]) (by kernel_rfl) (by simp) ?_
  refine' AllReadyH.cons (by simp only [List.getElem?_toArray, List.getElem?_cons_succ, List.getElem?_cons_zero]; rfl) (fun KC hK => ?_) AllReadyH.nil
  have hcv := Lib.run_convert_string_bytes (P := Tryd.prog) V1 9 43 5 (str (wordF 9)) (u := .string) Tryd.underlying9 Tryd.underlying43 Tryd.underlying5
  have hox := ownX_bytes V1 w.heap.size 5 (str (wordF 9)) (by have := hSd1.size; omega) (by decide)
  have hbb := below_bytes V1 5 (str (wordF 9))
  generalize Lib.bytesWorld V1 5 (str (wordF 9)) = W1 at *
  go_simp
  have hs1 : Below W0.heap.size W0 W1 := hSd1.trans (hbb.mono hSd1.size)
  refine hK.out _ _ hs1 (fun hSd3 => ?_)
  clear hK
  try simp only [Act.put, List.setIfInBounds_toArray, List.set_cons_zero, List.set_cons_succ]
  refine' wpAnyH_take (i := 6) (v := _) (by simp only [List.getElem?_toArray, List.getElem?_cons_succ, List.getElem?_cons_zero]; rfl) (by kernel_rfl) (by kernel_rfl) (by kernel_rfl) (by exact fun _ _ _ h => h) (Or.inl ⟨by rfl, ?hyd6⟩) hSd3 ?restd6
  case hyd6 => intro V hSw; clear hSw; go_simp; try with_reducible rfl
  try simp only [Act.put, List.setIfInBounds_toArray, List.set_cons_zero, List.set_cons_succ]
  refine wpAnyH_done (by kernel_rfl) ?_ _
  obtain ⟨ab, cb, hab⟩ := hox.slice
  have HB : Hid (OwnX W1 w.heap.size 5 1 (.slice ab (wordF 9).length cb) (wordF 9).length (Lib.byteCells (wordF 9))) := Lib.hid (by rw [hab] at hox; exact hox)
  rw [hab]
  have HBl : Hid (∀ g, (Value.slice ab (wordF 9).length cb).ownBlock = some g → g < W1.heap.size) := Lib.hid (fun g hg => (HB.out.lt g hg).2)
  clear hSd0 hSd1 hSd2 hSd3 hcv hab hox hbb hc
  have HQ1 := Lib.hid (HQ0.out.below hs1 HQ0.out.lt)
  have HW1 := Lib.hid (HW0.out.trans (hs1.mono HW0.out.size))
  have hz1 : w.heap.size + 1 ≤ W1.heap.size := HQ1.out.lt
  clear hs1 hz0
  obtain ⟨c0, c1, c2, c3, c4, c5, c6, c7, c8, c9⟩ := tenB HQ1.out
  have hz9 : Reads (W1.alloc (.cells #[.int .i64 bo] 2)) (W1.alloc (.cells #[.int .i64 bo] 2)).heap.size 1 (some ⟨W1.heap.size, 0, none⟩) 1 ([bo].map (Value.int .i64)) := (reads_new W1 2 [.int .i64 bo] 1 rfl).more (by simp)
  have HN9 : Hid (Calls Tryd.prog 59 #[.slice (some ⟨W1.heap.size, 0, none⟩) 1 1] (W1.alloc (.cells #[.int .i64 bo] 2)) (RowB (numsF numT [bo]) (W1.alloc (.cells #[.int .i64 bo] 2)))) := Lib.hid (rnums_any (some ⟨W1.heap.size, 0, none⟩) 1 [bo] (W1.alloc (.cells #[.int .i64 bo] 2)) hz9 (by have := HOK.out.2.2.2.2.2.1; simpa using this) (by simp) (by have := part_le (ps := []) (x := numsF numT [bo]) (rest := writeL numT ks) (all := [numsF numT [bo]] ++ writeL numT ks) rfl; have := HLEN.out; unfold maxW at this; omega))
  have hb9 := (Below.refl W1.heap.size W1).alloc (Nat.le_refl _) (.cells #[.int .i64 bo] 2)
  clear hz9
  go_wp2_with fail
  refine HN9.out.mono ?_
  rintro e V9 ⟨x0, rfl, ho, hb⟩
  have hE0 : Elt V9 W1.heap.size V9.heap.size x0 (numsF numT [bo]) := Elt.ofX (OwnX.of ho) hb9.size
  obtain ⟨A0, C0, hx⟩ := hE0.slice
  subst hx
  have hBV := hb9.trans (hb.mono hb9.size)
  have hE1 := hE0.below ((Below.refl _ V9).alloc (Nat.le_refl _) (.cells #[.slice A0 (numsF numT [bo]).length C0] 43)) (Nat.le_refl _)
  have hRn := reads_new V9 43 [.slice A0 (numsF numT [bo]).length C0] 1 rfl
  have hBA := Below.alloc hBV hBV.size (.cells #[.slice A0 (numsF numT [bo]).length C0] 43)
  clear ho hb hb9 HN9 c0 c1 c2 c3 c4 c5 c6 c7 c8 c9
  obtain ⟨hj1, hj2, hj3, hj4⟩ := HJ.out
  go_wp2_with (at_builtin; refine wpList_append_any _ rfl (.tmp 63) (.tmp 68) 74 rfl W1.heap.size 43 j0 (.slice none 0 0) 1 24 Tryd.underlying74 hj1 hj2 hj3 hj4 rfl (by decide) (.slice none 0 0) 0 [] rfl (World.ownsRow_nil _ _ _ _) _ _ 1 1 [.slice A0 (numsF numT [bo]).length C0] rfl hRn (by intro y hy; simp only [List.mem_cons, List.not_mem_nil, or_false] at hy; subst hy; rfl) (by decide) (by decide) (hBA.size) ?_)
  intro v4 W2 ho hg _
  have HP2 : Hid (Parts W1.heap.size W2 v4 [numsF numT [bo]]) := Lib.hid (parts_more (ps := []) (ps' := [numsF numT [bo]]) (World.ownsRow_nil _ _ _ _) rfl (parts_one (xs := []) (ps := []) (fun i x p h => by simp at h) rfl hE1) ho hg)
  have HB2 : Hid (Below W1.heap.size W1 W2) := Lib.hid (hBA.grown hg hBA.size (fun r e => by cases e))
  clear ho hg hBA hRn hE1 hE0 hBV hj1 hj2 hj3 hj4
  obtain ⟨_, _, hke, hckA, hmkA, helK⟩ := at_kids HA.out.kids
  injection hke with hk1 _ hk3
  subst hk1 hk3
  have HKS := Lib.hid helK
  clear helK hckA
  have hks : ks.length * 152 ≤ 140737488351232 := HOK.out.2.2.2.2.2.2
  have H0 : Hid (Parts W1.heap.size W2 v4 ([numsF numT [bo]] ++ (writeL numT ks).take 0) ∧ Below W1.heap.size W1 W2) := Lib.hid ⟨by simpa using HP2.out, HB2.out⟩
  clear HP2 HB2
  go_wp2_with fail
  go_loopw [4, 5] (fun v i wr => ∃ k : Nat, k ≤ ks.length ∧ i = .int .i64 k ∧ Hid (Parts W1.heap.size wr v ([numsF numT [bo]] ++ (writeL numT ks).take k) ∧ Below W1.heap.size W1 wr)) (fun _ i _ => ks.length - (intOf i).toNat)
  case atStart => exact ⟨0, by omega, rfl, H0⟩
  case round =>
    skip
    clear H0
    obtain ⟨k, hk, rfl, HP⟩ := hrel
    have HQr := Lib.hid (HQ1.out.below HP.out.2 HQ1.out.lt)
    have HWr := Lib.hid (HW1.out.trans (HP.out.2.mono HW1.out.size))
    have hzr := HP.out.2.size
    have q9 : wr.cell? ⟨w.heap.size, 9, none⟩ = some (.slice Kd ks.length ck) := HQr.out.cell 9
    by_cases hlt : k < ks.length
    · have hlt2 : (k : Int) < (ks.length : Int) := by omega
      obtain ⟨ad, us, hKe, hba, au, lu, cu⟩ := HKS.out k hlt
      subst hKe
      replace cu := cu.keep (w' := wr) (fun p hp => HWr.out.cell (by rw [hp, block_of_add]; exact hba))
      have HD := Lib.hid (fun (W : World) (hW : Below w.heap.size w W) => HA.out.down ks[k] (List.getElem_mem _) us W (atL_ltw au hW))
      have hocc := HA.out.occ ks[k] (List.getElem_mem _)
      have HX := Lib.hid (kids_takeR hlt)
      have HLK : Hid ((markF (QryP.oc ks[k]) ++ writeF numT ks[k]).length + 400 ≤ maxW) := Lib.hid (by have := kid_part (pc := [numsF numT [bo]]) hlt; have := HLEN.out; omega)
      have HPL : Hid (([numsF numT [bo]] ++ (writeL numT ks).take k).length ≤ ks.length + 3) := Lib.hid (by rw [List.length_append, List.length_take, writeL_len]; simp only [List.length_cons, List.length_nil]; omega)
      have q0 : wr.cell? ⟨w.heap.size, 0, none⟩ = some (.int .i64 9) := HQr.out.cell 0
      generalize hq : ks[k] = q at *
      have HNX : Hid (∀ (W : World) (v : Value), Parts W1.heap.size W v (([numsF numT [bo]] ++ (writeL numT ks).take k) ++ [markF (QryP.oc q) ++ writeF numT q]) → Parts W1.heap.size W v ([numsF numT [bo]] ++ (writeL numT ks).take (k + 1))) := Lib.hid (fun W v h => by rw [HX.out, ← List.append_assoc]; exact h)
      clear HX
      generalize [numsF numT [bo]] ++ (writeL numT ks).take k = PS at *
      obtain ⟨ao, ca, hao⟩ := HP.out.1.slice
      subst hao
      generalize hTX : writeF numT q = TX at *
      clear hTX
      obtain ⟨kd', oc', f', t', u', lo', hi', b', op', ks'⟩ := q
      obtain ⟨vl, vh, vk, rfl, hvl, hvh, hvk⟩ := at_cells au
      obtain ⟨B1, d1, rfl, _⟩ := at_ints hvl
      obtain ⟨B2, d2, rfl, _⟩ := at_ints hvh
      obtain ⟨B3, d3, rfl⟩ := at_sl hvk
      obtain ⟨a0, a1, a2, a3, a4, a5, a6, a7, a8, a9⟩ := ten cu
      have HCU := Lib.hid cu
      clear hq au hvl hvh hvk cu lu
      replace hocc : ((9 : Int) = 8 → 1 ≤ oc' ∧ oc' ≤ 4) ∧ ((9 : Int) ≠ 8 → oc' = 0) := hocc
      change Hid ((markF oc' ++ TX).length + 400 ≤ maxW) at HLK
      change Hid (∀ (W : World) (v : Value), Parts W1.heap.size W v (PS ++ [markF oc' ++ TX]) → Parts W1.heap.size W v ([numsF numT [bo]] ++ (writeL numT ks).take (k + 1))) at HNX
      obtain ⟨hi1, hi2, hi3, hi4⟩ := HI.out
      obtain ⟨hj1, hj2, hj3, hj4⟩ := HJ.out
      obtain rfl : oc' = 0 := hocc.2 (by decide)
      clear hocc
      go_wp2_with fail
      refine (HD.out _ HWr.out).mono ?_
      rintro e w2 ⟨x, rfl, ho, hb⟩
      obtain ⟨A6, C6, hx⟩ := ho.slice
      subst hx
      have hrd := ho.reads
      have hB2 : Below wr.heap.size wr w2 := hb
      have h6 : OwnX w2 wr.heap.size 5 1 (.slice none 0 0) 0 (Lib.byteCells ([] : List UInt8)) := ⟨by simp [Lib.byteCells], .inl ⟨rfl, rfl⟩⟩
      clear ho hb a0 a1 a2 a3 a4 a5 a6 a7 a8 a9 q9 q0 
      have hlk : 0 + TX.length + 400 ≤ maxW := by have := HLK.out; first | (simpa [markF] using this) | (simp [markF] at this; omega)
      have hz2 := hB2.size
      go_wp2_with (at_builtin; refine wpList_appendX _ rfl (.tmp 107) (.tmp 113) 43 rfl wr.heap.size 5 i0 (.int .u8 0) 1 1 Tryd.underlying43 hi1 hi2 hi3 hi4 rfl (by decide) _ _ _ rfl h6 _ A6 TX.length C6 _ rfl hrd cells_one (by unfold maxLen; unfold maxW at hlk; omega) (by unfold maxW at hlk; omega) hz2 ?_)
      intro v7 w7 ho7 hg7 hv7
      have h7 : OwnX w7 wr.heap.size 5 1 v7 (([] : List UInt8) ++ TX).length (Lib.byteCells (([] : List UInt8) ++ TX)) := by
        have e : Lib.byteCells (([] : List UInt8) ++ TX) = Lib.byteCells ([] : List UInt8) ++ Lib.byteCells TX := by simp [Lib.byteCells]
        first | (rw [e, List.length_append]; exact ho7) | exact ho7
      have hB7 : Below wr.heap.size wr w7 := hB2.grown hg7 hz2 (fun r e => (h6.lt r e).1)
      have hE7 : Elt w7 W1.heap.size w7.heap.size v7 (([] : List UInt8) ++ TX) := Elt.ofX h7 hzr
      obtain ⟨A7, C7, hx⟩ := hE7.slice
      subst hx
      have hPz := (HP.out.1.below hB7).below ((Below.refl _ w7).alloc (Nat.le_refl _) (.cells #[.slice A7 (([] : List UInt8) ++ TX).length C7] 43))
      have hE8 := hE7.below ((Below.refl _ w7).alloc (Nat.le_refl _) (.cells #[.slice A7 (([] : List UInt8) ++ TX).length C7] 43)) (Nat.le_refl _)
      obtain ⟨xs, hox, hxl, hxe⟩ := hPz
      have hRn := reads_new w7 43 [.slice A7 (([] : List UInt8) ++ TX).length C7] 1 rfl
      have hB8 : Below W1.heap.size W1 (w7.alloc (.cells #[.slice A7 (([] : List UInt8) ++ TX).length C7] 43)) := (HP.out.2.trans (hB7.mono hzr)).alloc (Nat.le_trans hzr hB7.size) _
      have hpl := HPL.out
      clear ho7 hg7 hv7 h6 hrd hlk hE7 h7 hB2
      go_wp2_with (at_builtin; refine wpList_append_any _ rfl (.tmp 115) (.tmp 117) 74 rfl W1.heap.size 43 j0 (.slice none 0 0) 1 24 Tryd.underlying74 hj1 hj2 hj3 hj4 rfl (by decide) _ _ _ rfl hox _ _ 1 1 [.slice A7 (([] : List UInt8) ++ TX).length C7] rfl hRn (by intro y hy; simp only [List.mem_cons, List.not_mem_nil, or_false] at hy; subst hy; rfl) (by unfold maxLen; omega) (by omega) hB8.size ?_)
      intro v8 w8 ho8 hg8 _
      have HN : Hid (Parts W1.heap.size w8 v8 ([numsF numT [bo]] ++ (writeL numT ks).take (k + 1)) ∧ Below W1.heap.size W1 w8) := Lib.hid ⟨HNX.out _ _ (parts_more (ps' := [([] : List UInt8) ++ TX]) hox rfl (parts_one hxe hxl hE8) ho8 hg8), hB8.grown hg8 hB8.size (fun r e => (hox.lt r e).1)⟩
      clear ho8 hg8 hox hxe hxl hE8 hRn hB8 hi1 hi2 hi3 hi4 hj1 hj2 hj3 hj4 hB7
      go_wp2_with fail
      go_roundw
      case rel => exact ⟨k + 1, by omega, by go_num, HN⟩
      case measure => simp [intOf]; omega
    · obtain rfl : k = ks.length := by omega
      obtain ⟨wo, hwo⟩ : ∃ wo : World, wo = wr := ⟨_, rfl⟩
      subst hwo
      have hall : (writeL numT ks).take ks.length = writeL numT ks := List.take_of_length_le (by rw [writeL_len]; exact Nat.le_refl _)
      rw [hall] at HP
      generalize hPS : [numsF numT [bo]] ++ writeL numT ks = PS at *
      obtain ⟨ao, ca, hao⟩ := HP.out.1.slice
      subst hao
      have HPL : Hid (PS.length ≤ ks.length + 3) := Lib.hid (by rw [← hPS, List.length_append, writeL_len]; simp only [List.length_cons, List.length_nil]; omega)
      have HPS := Lib.hid hPS
      clear hall hPS HKS
      obtain ⟨hi1, hi2, hi3, hi4⟩ := HI.out
      have HJ0 : Hid (Jn W1.heap.size wo w (wordF 9) (.slice ab (wordF 9).length cb) wo) := Lib.hid ⟨HB.out.below HP.out.2 (Nat.le_refl _), fun g e => .inl (HBl.out g e), HWr.out, fun g _ _ => rfl, Nat.le_refl _, HWr.out.size⟩
      have HJ1 := Lib.hid (HJ0.out.alloc (.cells #[.int .u8 40] 5))
      have hpl := HPL.out
      have hlen0 := HLEN.out
      unfold maxW at hlen0
      rw [List.length_append, show ([40] : List UInt8).length = 1 from rfl] at hlen0
      go_wp2_with (at_builtin; refine wpList_appendX _ rfl (.tmp 119) (.tmp 120) 43 rfl w.heap.size 5 i0 (.int .u8 0) 1 1 Tryd.underlying43 hi1 hi2 hi3 hi4 rfl (by decide) _ _ _ rfl HJ1.out.own _ _ 1 1 [.int .u8 40] rfl (reads_new wo 5 [.int .u8 40] 1 rfl) (by intro y hy; simp only [List.mem_cons, List.not_mem_nil, or_false] at hy; subst hy; rfl) (by unfold maxLen; omega) (by omega) HJ1.out.base ?_)
      intro vb w3 ho3 hg3 hv3
      have HJ2 : Hid (Jn W1.heap.size wo w (wordF 9 ++ [40] ++ joinF [44, 32] (PS.take 0)) vb w3) := Lib.hid (by rw [List.take_zero, joinF, List.append_nil]; exact HJ1.out.app (p := [40]) ho3 hg3 (hv3.imp (fun h => h) (fun h => by rw [h]; simp)))
      clear ho3 hg3 hv3 HJ0 HJ1 q9 hi1 hi2 hi3 hi4
      have hpm : PS.length ≤ 9223372036854775807 := by omega
      go_wp2_with fail
      go_loopw [3, 7] (fun v i wz => ∃ j : Nat, j ≤ PS.length ∧ i = .int .i64 j ∧ Hid (Jn W1.heap.size wo w (wordF 9 ++ [40] ++ joinF [44, 32] (PS.take j)) v wz)) (fun _ i _ => PS.length - (intOf i).toNat)
      case atStart => exact ⟨0, by omega, rfl, HJ2⟩
      case round =>
        clear HJ2
        obtain ⟨j, hj, rfl, HN⟩ := hrel
        obtain ⟨ab3, cb3, hab3⟩ := HN.out.own.slice
        subst hab3
        obtain ⟨hi1, hi2, hi3, hi4⟩ := HI.out
        by_cases hjl : j < PS.length
        · have hjl2 : (j : Int) < (PS.length : Int) := by omega
          obtain ⟨g4, x4, B4, m4, hA4, _, hc4, hr4⟩ := parts_at HP.out.1 HN.out hjl
          subst hA4
          have HJT := Lib.hid (join_take hjl)
          have hle := join_le PS (j + 1)
          generalize hpj : PS[j] = pj at *
          have HPJ := Lib.hid hpj
          clear hpj
          by_cases h0 : j = 0
          · have d0 : decide (0 < j) = false := decide_eq_false (by omega)
            have HE : Hid (wordF 9 ++ [40] ++ joinF [44, 32] (PS.take (j + 1)) = (wordF 9 ++ [40] ++ joinF [44, 32] (PS.take j)) ++ pj) := Lib.hid (by rw [HJT.out, if_pos h0, h0]; simp [joinF])
            have hlx : (wordF 9 ++ [40] ++ joinF [44, 32] (PS.take j)).length + pj.length + 100 ≤ 140737488355328 := by
              have h2 := congrArg List.length HE.out
              rw [List.length_append, List.length_append, List.length_append (bs := pj), show ([40] : List UInt8).length = 1 from rfl] at h2
              omega
            clear HJT h0 hle
            generalize wordF 9 ++ [40] ++ joinF [44, 32] (PS.take j) = LJ at *
            go_wp2_with (at_builtin; refine wpList_appendX _ rfl (.tmp 133) (.tmp 137) 43 rfl w.heap.size 5 i0 (.int .u8 0) 1 1 Tryd.underlying43 hi1 hi2 hi3 hi4 rfl (by decide) _ _ _ rfl HN.out.own _ x4 pj.length m4 _ rfl hr4 cells_one (by unfold maxLen; omega) (by omega) HN.out.base ?_)
            intro v5 w5 ho5 hg5 hv5
            have HN5 : Hid (Jn W1.heap.size wo w (wordF 9 ++ [40] ++ joinF [44, 32] (PS.take (j + 1))) v5 w5) := Lib.hid (by rw [HE.out]; exact HN.out.app ho5 hg5 hv5)
            clear ho5 hg5 hv5 hc4 hr4 hi1 hi2 hi3 hi4
            go_wp2_with fail
            go_roundw
            case rel => exact ⟨j + 1, by omega, by go_num, HN5⟩
            case measure => simp [intOf]; omega
          · have d0 : decide (0 < j) = true := decide_eq_true (by omega)
            have HE : Hid (wordF 9 ++ [40] ++ joinF [44, 32] (PS.take (j + 1)) = ((wordF 9 ++ [40] ++ joinF [44, 32] (PS.take j)) ++ [44, 32]) ++ pj) := Lib.hid (by rw [HJT.out, if_neg h0]; simp)
            have hlx : (wordF 9 ++ [40] ++ joinF [44, 32] (PS.take j)).length + 2 + pj.length + 100 ≤ 140737488355328 := by
              have h2 := congrArg List.length HE.out
              rw [List.length_append, List.length_append, List.length_append (bs := pj), List.length_append (bs := [44, 32]), show ([40] : List UInt8).length = 1 from rfl, show ([44, 32] : List UInt8).length = 2 from rfl] at h2
              omega
            clear HJT h0 hle
            generalize wordF 9 ++ [40] ++ joinF [44, 32] (PS.take j) = LJ at *
            have HNa := Lib.hid (HN.out.alloc (.cells #[.int .u8 44, .int .u8 32] 5))
            clear hc4 hr4
            go_wp2_with (at_builtin; refine wpList_appendX _ rfl (.tmp 130) (.tmp 131) 43 rfl w.heap.size 5 i0 (.int .u8 0) 1 1 Tryd.underlying43 hi1 hi2 hi3 hi4 rfl (by decide) _ _ _ rfl HNa.out.own _ _ 2 2 [.int .u8 44, .int .u8 32] rfl (reads_new wr 5 [.int .u8 44, .int .u8 32] 2 rfl) (by intro y hy; simp only [List.mem_cons, List.not_mem_nil, or_false] at hy; rcases hy with rfl | rfl <;> rfl) (by unfold maxLen; omega) (by omega) HNa.out.base ?_)
            intro v4' w4 ho4 hg4 hv4
            have HN4 : Hid (Jn W1.heap.size wo w (LJ ++ [44, 32]) v4' w4) := Lib.hid (HNa.out.app (p := [44, 32]) ho4 hg4 (hv4.imp (fun h => h) (fun h => by rw [h]; simp)))
            clear ho4 hg4 hv4 HNa
            obtain ⟨ab4, cb4, hab4⟩ := HN4.out.own.slice
            subst hab4
            obtain ⟨g5, x5, B5, m5, hA5, _, hc5, hr5⟩ := parts_at HP.out.1 HN4.out hjl
            injection hA5 with hA5
            injection hA5 with hA5
            subst hA5
            rw [HPJ.out] at hc5 hr5
            have hlx2 : (LJ ++ [44, 32]).length + pj.length + 100 ≤ 140737488355328 := by rw [List.length_append, show ([44, 32] : List UInt8).length = 2 from rfl]; omega
            generalize LJ ++ [44, 32] = LJ2 at *
            go_wp2_with (at_builtin; refine wpList_appendX _ rfl (.tmp 133) (.tmp 137) 43 rfl w.heap.size 5 i0 (.int .u8 0) 1 1 Tryd.underlying43 hi1 hi2 hi3 hi4 rfl (by decide) _ _ _ rfl HN4.out.own _ x5 pj.length m5 _ rfl hr5 cells_one (by unfold maxLen; omega) (by omega) HN4.out.base ?_)
            intro v5 w5 ho5 hg5 hv5
            have HN5 : Hid (Jn W1.heap.size wo w (wordF 9 ++ [40] ++ joinF [44, 32] (PS.take (j + 1))) v5 w5) := Lib.hid (by rw [HE.out]; exact HN4.out.app ho5 hg5 hv5)
            clear ho5 hg5 hv5 hc5 hr5 hi1 hi2 hi3 hi4
            go_wp2_with fail
            go_roundw
            case rel => exact ⟨j + 1, by omega, by go_num, HN5⟩
            case measure => simp [intOf]; omega
        · obtain rfl : j = PS.length := by omega
          have hle : (wordF 9 ++ [40] ++ joinF [44, 32] (PS.take PS.length)).length + 100 ≤ 140737488355328 := by
            rw [List.take_length, List.length_append, List.length_append, show ([40] : List UInt8).length = 1 from rfl]
            omega
          have HE : Hid (writeF numT (.mk 9 oc f t u lo hi bo op ks) = (wordF 9 ++ [40] ++ joinF [44, 32] (PS.take PS.length)) ++ [41]) := Lib.hid (by rw [HWF.out, List.take_length]; simp)
          have HNa := Lib.hid (HN.out.alloc (.cells #[.int .u8 41] 5))
          generalize wordF 9 ++ [40] ++ joinF [44, 32] (PS.take PS.length) = LJ at *
          go_wp2_with (at_builtin; refine wpList_appendX _ rfl (.tmp 139) (.tmp 140) 43 rfl w.heap.size 5 i0 (.int .u8 0) 1 1 Tryd.underlying43 hi1 hi2 hi3 hi4 rfl (by decide) _ _ _ rfl HNa.out.own _ _ 1 1 [.int .u8 41] rfl (reads_new wr 5 [.int .u8 41] 1 rfl) (by intro y hy; simp only [List.mem_cons, List.not_mem_nil, or_false] at hy; subst hy; rfl) (by unfold maxLen; omega) (by omega) HNa.out.base ?_)
          intro v5 w5 ho5 hg5 hv5
          have HN5 : Hid (Jn W1.heap.size wo w (LJ ++ [41]) v5 w5) := Lib.hid (HNa.out.app (p := [41]) ho5 hg5 (hv5.imp (fun h => h) (fun h => by rw [h]; simp)))
          clear ho5 hg5 hv5 hi1 hi2 hi3 hi4 HNa
          go_wp2_with fail
          go_ret
          exact ⟨_, rfl, by rw [HE.out]; exact HN5.out.own, HN5.out.below⟩
end
end Go.Proofs.YtinmiekbhoemjaaDoor.Qry
