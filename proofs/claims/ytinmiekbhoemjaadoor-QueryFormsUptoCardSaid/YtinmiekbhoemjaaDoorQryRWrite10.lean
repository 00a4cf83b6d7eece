/- Contract: the document's write, a kind at a time. Written by gen_rwrite.py. -/
import Derived.Test.YtinmiekbhoemjaaDoorQryRWD
import Derived.Deep.RegionHeld3
set_option linter.unusedVariables false
namespace Go.Proofs.YtinmiekbhoemjaaDoor.Qry
open Go.RowKit Words Tree QryP Kit Owned

section
variable {oc : Int} {f t u : ByteArray} {lo hi : List Int} {bo op : Int} {ks : List QT} {L Hh Kd : Option Addr} {cl ch ck : Nat} {w : World}
set_option maxRecDepth 100000 in
set_option maxHeartbeats 16000000 in
theorem rwrite_10 (h : RAsk 10 oc f t u lo hi bo op ks L Hh Kd ck w) (hop : 1 ≤ op ∧ op ≤ 3) :
    Calls Tryd.prog 28 #[.agg #[.int .i64 10, .int .i64 oc, .string f, .string t, .string u, .slice L lo.length cl, .slice Hh hi.length ch, .int .i64 bo, .int .i64 op, .slice Kd ks.length ck]] w (RowBX (writeF numT (.mk 10 oc f t u lo hi bo op ks)) w) := by
  have HA := Lib.hid h
  obtain ⟨i0, hi1, hi2, hi3, hi4⟩ := info_parts infoU8
  obtain ⟨j0, hj1, hj2, hj3, hj4⟩ := info_parts infoS8
  have HI := Lib.hid (And.intro hi1 (And.intro hi2 (And.intro hi3 hi4)))
  have HJ := Lib.hid (And.intro hj1 (And.intro hj2 (And.intro hj3 hj4)))
  clear hi1 hi2 hi3 hi4 hj1 hj2 hj3 hj4
  have HOK : Hid (f.size ≤ 140737488351232 ∧ t.size ≤ 140737488351232 ∧ u.size ≤ 140737488351232 ∧ (lo.length * 8 ≤ 140737488351232 ∧ ∀ z ∈ lo, I64 z) ∧ (hi.length * 8 ≤ 140737488351232 ∧ ∀ z ∈ hi, I64 z) ∧ I64 bo ∧ ks.length * 152 ≤ 140737488351232) := Lib.hid (by
    cases h.ok with
    | mk _ _ a1 a2 a3 a4 a5 a6 _ a7 _ => exact ⟨a1, a2, a3, a4, a5, a6, a7⟩)
  have hW : writeF numT (.mk 10 oc f t u lo hi bo op ks) = wordF 10 ++ 40 :: (joinF [44, 32] ([opF op, f.data.toList, numsF numT lo] ++ writeL numT ks) ++ [41]) := by
    rw [writeF, if_neg (by decide)]; rfl
  have HWF := Lib.hid hW
  have HLEN : Hid ((wordF 10 ++ [40]).length + (joinF [44, 32] ([opF op, f.data.toList, numsF numT lo] ++ writeL numT ks)).length + 401 ≤ maxW) := Lib.hid (by
    have := h.len
    rw [hW] at this
    simp only [List.length_append, List.length_cons, List.length_nil] at *
    omega)
  clear hW
  have hop3 : 1 ≤ op ∧ op < 4 := by omega
  have HOS : Hid ((str (opF op)).size ≤ maxLen) := Lib.hid (by
    have : op = 1 ∨ op = 2 ∨ op = 3 := by omega
    rcases this with rfl | rfl | rfl <;> decide)
  clear h
  go_enter Tryd.func28, Tryd.ntmps28
  go_upto_region 1 with fail
  have HQ0 := Lib.hid (Blk.new w 25 #[.int .i64 10, .int .i64 oc, .string f, .string t, .string u, .slice L lo.length cl, .slice Hh hi.length ch, .int .i64 bo, .int .i64 op, .slice Kd ks.length ck])
  have HW0 := Lib.hid ((Below.refl _ w).alloc (Nat.le_refl _) (.cells #[.int .i64 10, .int .i64 oc, .string f, .string t, .string u, .slice L lo.length cl, .slice Hh hi.length ch, .int .i64 bo, .int .i64 op, .slice Kd ks.length ck] 25))
  have hz0 : (w.alloc (.cells #[.int .i64 10, .int .i64 oc, .string f, .string t, .string u, .slice L lo.length cl, .slice Hh hi.length ch, .int .i64 bo, .int .i64 op, .slice Kd ks.length ck] 25)).heap.size = w.heap.size + 1 := by simp
  generalize (w.alloc (.cells #[.int .i64 10, .int .i64 oc, .string f, .string t, .string u, .slice L lo.length cl, .slice Hh hi.length ch, .int .i64 bo, .int .i64 op, .slice Kd ks.length ck] 25)) = W0 at *
  refine wp_region_held_drew (S := fun V => Below W0.heap.size W0 V) (by kernel_rfl) (Below.refl _ W0).drew (fun hSd0 => ?_)
  refine' wpAnyH_take (i := 1) (v := _) (by simp only [List.getElem?_toArray, List.getElem?_cons_succ, List.getElem?_cons_zero]; rfl) (by kernel_rfl) (by kernel_rfl) (by kernel_rfl) (by exact fun _ _ _ h => h) (Or.inl ⟨by rfl, ?hyd1⟩) hSd0 ?restd1
  case hyd1 => intro V hSw; clear hSw; go_simp; try with_reducible rfl
  try simp only [Act.put, List.setIfInBounds_toArray, List.set_cons_zero, List.set_cons_succ]
  refine' wpAnyH_take (i := 2) (v := _) (by simp only [List.getElem?_toArray, List.getElem?_cons_succ, List.getElem?_cons_zero]; rfl) (by kernel_rfl) (by kernel_rfl) (by kernel_rfl) (by exact fun _ _ _ h => h) (Or.inl ⟨by rfl, ?hyd2⟩) hSd0 ?restd2
  case hyd2 => intro V hSw; have fq := (HQ0.out.below hSw HQ0.out.lt).cell 0; clear hSw; go_simp; try with_reducible rfl
  try simp only [Act.put, List.setIfInBounds_toArray, List.set_cons_zero, List.set_cons_succ]
  refine wpAnyH_ready (rs := [0]) (by kernel_rfl) (by simp) ?_
  refine' AllReadyH.cons (by simp only [List.getElem?_toArray, List.getElem?_cons_zero]; rfl) (fun KC hK => ?_) AllReadyH.nil
  go_simp
  refine (rwords_any _).mono ?_
  rintro e V1 ⟨rfl, hb, hc⟩
  have hc : V1.cell? ⟨w.heap.size + 1, 10, none⟩ = some (.string (str (wordF 10))) := by rw [← hz0]; exact hc 10 (by decide) (by decide)
  have hs1 : Below W0.heap.size W0 V1 := hSd0.trans (hb.mono hSd0.size)
  clear hb
  go_simp
  refine hK.out _ _ hs1 (fun hSd1 => ?_)
  clear hK hs1
  try simp only [Act.put, List.setIfInBounds_toArray, List.set_cons_zero, List.set_cons_succ]
  refine' wpAnyH_take (i := 3) (v := _) (by simp only [List.getElem?_toArray, List.getElem?_cons_succ, List.getElem?_cons_zero]; rfl) (by kernel_rfl) (by kernel_rfl) (by kernel_rfl) (by exact fun _ _ _ h => h) (Or.inl ⟨by rfl, ?hyd3⟩) hSd1 ?restd3
  case hyd3 => intro V hSw; clear hSw; go_simp; try with_reducible rfl
  try simp only [Act.put, List.setIfInBounds_toArray, List.set_cons_zero, List.set_cons_succ]
  refine wpAnyH_ready (rs := [4]) (by kernel_rfl) (by simp) ?_
  refine' AllReadyH.cons (by simp only [List.getElem?_toArray, List.getElem?_cons_succ, List.getElem?_cons_zero]; rfl) (fun KC hK => ?_) AllReadyH.nil
  go_simp
  refine hK.out _ _ hSd1 (fun hSd2 => ?_)
  clear hK
  try simp only [Act.put, List.setIfInBounds_toArray, List.set_cons_zero, List.set_cons_succ]
  refine wpAnyH_ready (rs := [5]) (by kernel_rfl) (by simp) ?_
  refine' AllReadyH.cons (by simp only [List.getElem?_toArray, List.getElem?_cons_succ, List.getElem?_cons_zero]; rfl) (fun KC hK => ?_) AllReadyH.nil
  have hcv := Lib.run_convert_string_bytes (P := Tryd.prog) V1 9 43 5 (str (wordF 10)) (u := .string) Tryd.underlying9 Tryd.underlying43 Tryd.underlying5
  have hox := ownX_bytes V1 w.heap.size 5 (str (wordF 10)) (by have := hSd1.size; omega) (by decide)
  have hbb := below_bytes V1 5 (str (wordF 10))
  generalize Lib.bytesWorld V1 5 (str (wordF 10)) = W1 at *
  go_simp
  have hs1 : Below W0.heap.size W0 W1 := hSd1.trans (hbb.mono hSd1.size)
  refine hK.out _ _ hs1 (fun hSd3 => ?_)
  clear hK
  try simp only [Act.put, List.setIfInBounds_toArray, List.set_cons_zero, List.set_cons_succ]
  refine' wpAnyH_take (i := 6) (v := _) (by simp only [List.getElem?_toArray, List.getElem?_cons_succ, List.getElem?_cons_zero]; rfl) (by kernel_rfl) (by kernel_rfl) (by kernel_rfl) (by exact fun _ _ _ h => h) (Or.inl ⟨by rfl, ?hyd6⟩) hSd3 ?restd6
  case hyd6 => intro V hSw; clear hSw; go_simp; try with_reducible rfl
  try simp only [Act.put, List.setIfInBounds_toArray, List.set_cons_zero, List.set_cons_succ]
  refine wpAnyH_done (by kernel_rfl) ?_ _
  obtain ⟨ab, cb, hab⟩ := hox.slice
  have HB : Hid (OwnX W1 w.heap.size 5 1 (.slice ab (wordF 10).length cb) (wordF 10).length (Lib.byteCells (wordF 10))) := Lib.hid (by rw [hab] at hox; exact hox)
  rw [hab]
  have HBl : Hid (∀ g, (Value.slice ab (wordF 10).length cb).ownBlock = some g → g < W1.heap.size) := Lib.hid (fun g hg => (HB.out.lt g hg).2)
  clear hSd0 hSd1 hSd2 hSd3 hcv hab hox hbb hc
  have HQ1 := Lib.hid (HQ0.out.below hs1 HQ0.out.lt)
  have HW1 := Lib.hid (HW0.out.trans (hs1.mono HW0.out.size))
  have hz1 : w.heap.size + 1 ≤ W1.heap.size := HQ1.out.lt
  clear hs1 hz0
  obtain ⟨c0, c1, c2, c3, c4, c5, c6, c7, c8, c9⟩ := tenB HQ1.out
  have HLq2 : Hid ((numsF numT lo).length + 10 ≤ 140737488355328) := Lib.hid (by have := part_le (ps := [opF op, f.data.toList]) (x := numsF numT lo) (rest := [] ++ writeL numT ks) (all := [opF op, f.data.toList, numsF numT lo] ++ writeL numT ks) rfl; have := HLEN.out; unfold maxW at this; omega)
  go_upto_region 17 with fail
  clear c0 c1 c2 c3 c4 c5 c6 c7 c8 c9
  refine wp_mono (Q := fun ex a' V => ex = .normal ∧ ∃ x0 x1 x2 gw  Ab v', Parts W1.heap.size V v' [opF op, f.data.toList, numsF numT lo] ∧ Below W1.heap.size W1 V ∧ a' = { tmps := #[Value.agg #[Value.int IntKind.i64 10, Value.int IntKind.i64 oc, Value.string f, Value.string t, Value.string u, Value.slice L lo.length cl, Value.slice Hh hi.length ch, Value.int IntKind.i64 bo, Value.int IntKind.i64 op, Value.slice Kd ks.length ck], Value.pointer (some { block := w.heap.size, off := 0 }), Value.slice none 0 0, Value.slice ab (str (wordF 10)).size cb, v', undef, undef, undef, Value.slice (some { block := w.heap.size + 1, off := 0 }) 11 11, Value.pointer (some { block := w.heap.size, off := 0 }), Value.int IntKind.i64 10, Value.pointer (some { block := w.heap.size + 1, off := 10 }), Value.string (str (wordF 10)), Value.slice ab (str (wordF 10)).size cb, Value.pointer (some { block := w.heap.size, off := 0 }), Value.int IntKind.i64 10, Value.bool false, undef, Value.pointer (some { block := w.heap.size, off := 0 }), Value.int IntKind.i64 10, Value.bool false, Value.bool false, Value.bool false, Value.bool false, undef, undef, undef, undef, undef, undef, undef, undef, undef, Value.bool false, Value.bool false, undef, undef, undef, undef, undef, undef, undef, undef, undef, undef, undef, undef, Value.bool false, Value.bool false, undef, undef, undef, undef, undef, undef, undef, undef, undef, undef, undef, undef, Value.bool false, Value.bool false, undef, undef, undef, undef, undef, undef, undef, Value.bool true, Value.bool true, Value.slice none 0 0, Value.slice (some { block := gw, off := 0 }) 4 4, Value.pointer (some { block := w.heap.size, off := 8 }), Value.int IntKind.i64 op, Value.pointer (some { block := gw, off := op.toNat }), Value.string (str (opF op)), x0, Value.pointer (some { block := w.heap.size, off := 2 }), Value.string f, x1, Value.pointer (some { block := w.heap.size, off := 5 }), Value.slice L lo.length cl, x2, Value.slice Ab 3 3, v', undef, undef, undef, undef, undef, undef, undef, undef, undef, undef, undef, undef, undef, undef, undef, undef, undef, undef, undef, undef, undef, undef, undef, undef, undef, undef, undef, undef, undef, undef, undef, undef, undef, undef, undef, undef, undef, undef, undef, undef, undef, undef, undef, undef, undef, undef, undef, undef, undef, undef, undef, undef, undef, undef, undef], defers := [] }) ?region ?rest
  case region =>
    obtain ⟨hj1, hj2, hj3, hj4⟩ := HJ.out
    refine wp_region_held_drew (S := fun V => Below W1.heap.size W1 V) (by kernel_rfl) (Below.refl _ W1).drew (fun hS0 => ?_)
    generalize W1.drew = V0 at hS0 ⊢
    refine' wpAnyH_take (i := 0) (v := _) (by simp only [List.getElem?_toArray, List.getElem?_cons_zero]; rfl) (by kernel_rfl) (by kernel_rfl) (by kernel_rfl) (by rintro _ _ _ ⟨h, _⟩; cases h) (Or.inl ⟨by rfl, ?hm0_1⟩) hS0 ?rm0_1
    case hm0_1 => intro V hSw; clear hSw; go_simp; try with_reducible rfl
    try simp only [Act.put, List.setIfInBounds_toArray, List.set_cons_zero, List.set_cons_succ]
    refine' wpAnyH_take (i := 2) (v := _) (by simp only [List.getElem?_toArray, List.getElem?_cons_succ, List.getElem?_cons_zero]; rfl) (by kernel_rfl) (by kernel_rfl) (by kernel_rfl) (by rintro _ _ _ ⟨h, _⟩; cases h) (Or.inl ⟨by rfl, ?hm2_2⟩) hS0 ?rm2_2
    case hm2_2 => intro V hSw; clear hSw; go_simp; try with_reducible rfl
    try simp only [Act.put, List.setIfInBounds_toArray, List.set_cons_zero, List.set_cons_succ]
    refine' wpAnyH_take (i := 3) (v := _) (by simp only [List.getElem?_toArray, List.getElem?_cons_succ, List.getElem?_cons_zero]; rfl) (by kernel_rfl) (by kernel_rfl) (by kernel_rfl) (by rintro _ _ _ ⟨h, _⟩; cases h) (Or.inl ⟨by rfl, ?hm3_3⟩) hS0 ?rm3_3
    case hm3_3 => intro V hSw; have fq := (HQ1.out.below hSw HQ1.out.lt).cell 8; clear hSw; go_simp; try with_reducible rfl
    try simp only [Act.put, List.setIfInBounds_toArray, List.set_cons_zero, List.set_cons_succ]
    refine' wpAnyH_take (i := 7) (v := _) (by simp only [List.getElem?_toArray, List.getElem?_cons_succ, List.getElem?_cons_zero]; rfl) (by kernel_rfl) (by kernel_rfl) (by kernel_rfl) (by rintro _ _ _ ⟨h, _⟩; cases h) (Or.inl ⟨by rfl, ?hm7_4⟩) hS0 ?rm7_4
    case hm7_4 => intro V hSw; clear hSw; go_simp; try with_reducible rfl
    try simp only [Act.put, List.setIfInBounds_toArray, List.set_cons_zero, List.set_cons_succ]
    refine' wpAnyH_take (i := 8) (v := _) (by simp only [List.getElem?_toArray, List.getElem?_cons_succ, List.getElem?_cons_zero]; rfl) (by kernel_rfl) (by kernel_rfl) (by kernel_rfl) (by rintro _ _ _ ⟨h, _⟩; cases h) (Or.inl ⟨by rfl, ?hm8_5⟩) hS0 ?rm8_5
    case hm8_5 => intro V hSw; have fq := (HQ1.out.below hSw HQ1.out.lt).cell 2; clear hSw; go_simp; try with_reducible rfl
    try simp only [Act.put, List.setIfInBounds_toArray, List.set_cons_zero, List.set_cons_succ]
    refine' wpAnyH_take (i := 10) (v := _) (by simp only [List.getElem?_toArray, List.getElem?_cons_succ, List.getElem?_cons_zero]; rfl) (by kernel_rfl) (by kernel_rfl) (by kernel_rfl) (by rintro _ _ _ ⟨h, _⟩; cases h) (Or.inl ⟨by rfl, ?hm10_6⟩) hS0 ?rm10_6
    case hm10_6 => intro V hSw; clear hSw; go_simp; try with_reducible rfl
    try simp only [Act.put, List.setIfInBounds_toArray, List.set_cons_zero, List.set_cons_succ]
    refine' wpAnyH_take (i := 11) (v := _) (by simp only [List.getElem?_toArray, List.getElem?_cons_succ, List.getElem?_cons_zero]; rfl) (by kernel_rfl) (by kernel_rfl) (by kernel_rfl) (by rintro _ _ _ ⟨h, _⟩; cases h) (Or.inl ⟨by rfl, ?hm11_7⟩) hS0 ?rm11_7
    case hm11_7 => intro V hSw; have fq := (HQ1.out.below hSw HQ1.out.lt).cell 5; clear hSw; go_simp; try with_reducible rfl
    try simp only [Act.put, List.setIfInBounds_toArray, List.set_cons_zero, List.set_cons_succ]
    refine wpAnyH_ready (rs := [1, 9]) (by kernel_rfl) (by simp) ?_
    refine' AllReadyH.cons (by simp only [List.getElem?_toArray, List.getElem?_cons_succ, List.getElem?_cons_zero]; rfl) (fun K hK => ?_) ?_
    · skip
      go_simp
      refine (rops_any _).mono ?_
      rintro e V1 ⟨rfl, hb, hc⟩
      have hcw := hc op hop3.1 hop3.2
      have hgw : V0.heap.size < V1.heap.size := by
        rcases Nat.lt_or_ge V0.heap.size V1.heap.size with h' | h'
        · exact h'
        · simp [World.cell?, Array.getElem?_eq_none h'] at hcw
      have hS1 : Below W1.heap.size W1 V1 := hS0.trans (hb.mono hS0.size)
      clear hb hc
      obtain ⟨gw, hgwe⟩ : ∃ g, g = V0.heap.size := ⟨_, rfl⟩
      rw [← hgwe] at hcw hgw ⊢
      clear hgwe
      go_simp
      refine hK.out _ _ hS1 (fun hT => ?_)
      clear hK hT
      try simp only [Act.put, List.setIfInBounds_toArray, List.set_cons_zero, List.set_cons_succ]
      refine' wpAnyH_take (i := 4) (v := _) (by simp only [List.getElem?_toArray, List.getElem?_cons_succ, List.getElem?_cons_zero]; rfl) (by kernel_rfl) (by kernel_rfl) (by kernel_rfl) (by rintro _ _ _ ⟨h, _⟩; cases h) (Or.inl ⟨by rfl, ?hm4_8⟩) hS1 ?rm4_8
      case hm4_8 => intro V hSw; have f1 : (0 : Int) ≤ op := (by omega); have f2 : op < 4 := (by omega); clear hSw; go_simp; try with_reducible rfl
      try simp only [Act.put, List.setIfInBounds_toArray, List.set_cons_zero, List.set_cons_succ]
      refine wpAnyH_ready (rs := [5, 9, 12]) (by kernel_rfl) (by simp) ?_
      refine' AllReadyH.cons (by simp only [List.getElem?_toArray, List.getElem?_cons_succ, List.getElem?_cons_zero]; rfl) (fun K hK => ?_) ?_
      · skip
        go_simp
        refine hK.out _ _ hS1 (fun hT => ?_)
        clear hK hT
        try simp only [Act.put, List.setIfInBounds_toArray, List.set_cons_zero, List.set_cons_succ]
        refine wpAnyH_ready (rs := [6, 9, 12]) (by kernel_rfl) (by simp) ?_
        refine' AllReadyH.cons (by simp only [List.getElem?_toArray, List.getElem?_cons_succ, List.getElem?_cons_zero]; rfl) (fun K hK => ?_) ?_
        · skip
          have hcv := Lib.run_convert_string_bytes (P := Tryd.prog) V1 9 43 5 (str (opF op)) (u := .string) Tryd.underlying9 Tryd.underlying43 Tryd.underlying5
          have hox := ownX_bytes V1 W1.heap.size 5 (str (opF op)) hS1.size HOS.out
          have hbb := below_bytes V1 5 (str (opF op))
          generalize Lib.bytesWorld V1 5 (str (opF op)) = V3 at *
          generalize hxv : Value.slice (some ⟨V1.heap.size, 0, none⟩) (str (opF op)).size (grownCap V1 (str (opF op)).size 0 5) = x0 at *
          clear hxv
          go_simp
          have hE0 : Elt V3 W1.heap.size V3.heap.size x0 (opF op) := Elt.ofX hox (Nat.le_refl _)
          have hS3 : Below W1.heap.size W1 V3 := hS1.trans (hbb.mono hS1.size)
          refine hK.out _ _ hS3 (fun hT => ?_)
          clear hK hcv hox hT
          try simp only [Act.put, List.setIfInBounds_toArray, List.set_cons_zero, List.set_cons_succ]
          clear hbb
          refine wpAnyH_ready (rs := [9, 12]) (by kernel_rfl) (by simp) ?_
          refine' AllReadyH.cons (by simp only [List.getElem?_toArray, List.getElem?_cons_succ, List.getElem?_cons_zero]; rfl) (fun K hK => ?_) ?_
          · skip
            have hcv := Lib.run_convert_string_bytes (P := Tryd.prog) V3 9 43 5 f (u := .string) Tryd.underlying9 Tryd.underlying43 Tryd.underlying5
            have hox := ownX_bytes V3 W1.heap.size 5 f hS3.size (by have := HOK.out.1; unfold maxLen; omega)
            have hbb := below_bytes V3 5 f
            generalize Lib.bytesWorld V3 5 f = V4 at *
            generalize hxv : Value.slice (some ⟨V3.heap.size, 0, none⟩) f.size (grownCap V3 f.size 0 5) = x1 at *
            clear hxv
            go_simp
            replace hE0 := hE0.below hbb (Nat.le_refl _)
            have hE1 : Elt V4 W1.heap.size V4.heap.size x1 (f.data.toList) := Elt.ofX hox (Nat.le_refl _)
            have hS4 : Below W1.heap.size W1 V4 := hS3.trans (hbb.mono hS3.size)
            refine hK.out _ _ hS4 (fun hT => ?_)
            clear hK hcv hox hT
            try simp only [Act.put, List.setIfInBounds_toArray, List.set_cons_zero, List.set_cons_succ]
            clear hbb
            refine wpAnyH_ready (rs := [12]) (by kernel_rfl) (by simp) ?_
            refine' AllReadyH.cons (by simp only [List.getElem?_toArray, List.getElem?_cons_succ, List.getElem?_cons_zero]; rfl) (fun K hK => ?_) ?_
            · skip
              go_simp
              refine (rnums_any _ _ lo _ ((HA.out.low.below (HW1.out.trans (hS4.mono HW1.out.size))).more (Nat.le_trans HW1.out.size hS4.size)) HOK.out.2.2.2.1.2 (by have := HOK.out.2.2.2.1.1; omega) HLq2.out).mono ?_
              rintro e V5 ⟨x2, rfl, ho, hb⟩
              have hE2 : Elt V5 W1.heap.size V5.heap.size x2 (numsF numT lo) := Elt.ofX (OwnX.of ho) hS4.size
              have hS5 : Below W1.heap.size W1 V5 := hS4.trans (hb.mono hS4.size)
              replace hE0 := hE0.below hb (Nat.le_refl _)
              replace hE1 := hE1.below hb (Nat.le_refl _)
              clear ho hb
              go_simp
              refine hK.out _ _ hS5 (fun hT => ?_)
              clear hK hT
              try simp only [Act.put, List.setIfInBounds_toArray, List.set_cons_zero, List.set_cons_succ]
              obtain ⟨A0, C0, hx⟩ := hE0.slice
              replace hx : x0 = .slice A0 (opF op).length C0 := hx
              subst hx
              obtain ⟨A1, C1, hx⟩ := hE1.slice
              replace hx : x1 = .slice A1 f.size C1 := hx
              subst hx
              obtain ⟨A2, C2, hx⟩ := hE2.slice
              replace hx : x2 = .slice A2 (numsF numT lo).length C2 := hx
              subst hx
              refine wpAnyH_ready (rs := [13]) (by kernel_rfl) (by simp) ?_
              refine' AllReadyH.cons (by simp only [List.getElem?_toArray, List.getElem?_cons_succ, List.getElem?_cons_zero]; rfl) (fun K hK => ?_) AllReadyH.nil
              have hRn := reads_new V5 43 [.slice A0 (opF op).length C0, .slice A1 f.size C1, .slice A2 (numsF numT lo).length C2] 3 rfl
              go_simp
              replace hE0 := hE0.below ((Below.refl _ V5).alloc (Nat.le_refl _) (.cells #[.slice A0 (opF op).length C0, .slice A1 f.size C1, .slice A2 (numsF numT lo).length C2] 43)) (Nat.le_refl _)
              replace hE1 := hE1.below ((Below.refl _ V5).alloc (Nat.le_refl _) (.cells #[.slice A0 (opF op).length C0, .slice A1 f.size C1, .slice A2 (numsF numT lo).length C2] 43)) (Nat.le_refl _)
              replace hE2 := hE2.below ((Below.refl _ V5).alloc (Nat.le_refl _) (.cells #[.slice A0 (opF op).length C0, .slice A1 f.size C1, .slice A2 (numsF numT lo).length C2] 43)) (Nat.le_refl _)
              have hS6 := Below.alloc hS5 hS5.size (.cells #[.slice A0 (opF op).length C0, .slice A1 f.size C1, .slice A2 (numsF numT lo).length C2] 43)
              generalize hAb : (some ⟨V5.heap.size, 0, none⟩ : Option Addr) = Ab at *
              clear hAb
              generalize V5.alloc (.cells #[.slice A0 (opF op).length C0, .slice A1 f.size C1, .slice A2 (numsF numT lo).length C2] 43) = V6 at *
              refine hK.out _ _ hS6 (fun hT => ?_)
              clear hK
              try simp only [Act.put, List.setIfInBounds_toArray, List.set_cons_zero, List.set_cons_succ]
              refine wpAnyH_ready (rs := [14]) (by kernel_rfl) (by simp) ?_
              refine' AllReadyH.cons (by simp only [List.getElem?_toArray, List.getElem?_cons_succ, List.getElem?_cons_zero]; rfl) (fun K hK => ?_) AllReadyH.nil
              refine step_append_any _ rfl (.tmp 72) (.tmp 85) 74 rfl W1.heap.size 43 j0 (.slice none 0 0) 1 24 Tryd.underlying74 hj1 hj2 hj3 hj4 rfl (by decide) (.slice none 0 0) 0 [] rfl (World.ownsRow_nil _ _ _ _) _ Ab 3 3 [.slice A0 (opF op).length C0, .slice A1 f.size C1, .slice A2 (numsF numT lo).length C2] rfl hRn (by intro y hy; simp only [List.mem_cons, List.not_mem_nil, or_false] at hy; rcases hy with rfl | rfl | rfl; exact hE0.one; exact hE1.one; exact hE2.one) (by decide) (by decide) hS6.size ?_
              intro v' w' ho hg _
              have hP : Parts W1.heap.size w' v' [opF op, f.data.toList, numsF numT lo] := parts_more (ps := []) (ps' := [opF op, f.data.toList, numsF numT lo]) (World.ownsRow_nil _ _ _ _) rfl (parts_one (xs := [.slice A0 (opF op).length C0, .slice A1 f.size C1]) (ps := [opF op, f.data.toList]) (parts_one (xs := [.slice A0 (opF op).length C0]) (ps := [opF op]) (parts_one (xs := []) (ps := []) (fun i x p h => by simp at h) rfl hE0) rfl hE1) rfl hE2) ho hg
              have hSe : Below W1.heap.size W1 w' := hS6.grown hg hS6.size (fun r e => by cases e)
              refine hK.out _ _ hSe (fun hT => ?_)
              clear hK
              try simp only [Act.put, List.setIfInBounds_toArray, List.set_cons_zero, List.set_cons_succ]
              refine' wpAnyH_take (i := 15) (v := _) (by simp only [List.getElem?_toArray, List.getElem?_cons_succ, List.getElem?_cons_zero]; rfl) (by kernel_rfl) (by kernel_rfl) (by kernel_rfl) (by rintro _ _ _ ⟨h, _⟩; cases h) (Or.inl ⟨by rfl, ?hm15_9⟩) hSe ?rm15_9
              case hm15_9 => intro V hSw; clear hSw; go_simp; try with_reducible rfl
              try simp only [Act.put, List.setIfInBounds_toArray, List.set_cons_zero, List.set_cons_succ]
              refine wpAnyH_done (by kernel_rfl) ?_ _
              exact ⟨rfl, .slice A0 (opF op).length C0, .slice A1 f.size C1, .slice A2 (numsF numT lo).length C2, gw, Ab, v', hP, hSe, rfl⟩
            exact AllReadyH.nil
          refine' AllReadyH.cons (by simp only [List.getElem?_toArray, List.getElem?_cons_succ, List.getElem?_cons_zero]; rfl) (fun K hK => ?_) ?_
          · skip
            go_simp
            refine (rnums_any _ _ lo _ ((HA.out.low.below (HW1.out.trans (hS3.mono HW1.out.size))).more (Nat.le_trans HW1.out.size hS3.size)) HOK.out.2.2.2.1.2 (by have := HOK.out.2.2.2.1.1; omega) HLq2.out).mono ?_
            rintro e V4 ⟨x2, rfl, ho, hb⟩
            have hE2 : Elt V4 W1.heap.size V4.heap.size x2 (numsF numT lo) := Elt.ofX (OwnX.of ho) hS3.size
            have hS4 : Below W1.heap.size W1 V4 := hS3.trans (hb.mono hS3.size)
            replace hE0 := hE0.below hb (Nat.le_refl _)
            clear ho hb
            go_simp
            refine hK.out _ _ hS4 (fun hT => ?_)
            clear hK hT
            try simp only [Act.put, List.setIfInBounds_toArray, List.set_cons_zero, List.set_cons_succ]
            refine wpAnyH_ready (rs := [9]) (by kernel_rfl) (by simp) ?_
            refine' AllReadyH.cons (by simp only [List.getElem?_toArray, List.getElem?_cons_succ, List.getElem?_cons_zero]; rfl) (fun K hK => ?_) ?_
            · skip
              have hcv := Lib.run_convert_string_bytes (P := Tryd.prog) V4 9 43 5 f (u := .string) Tryd.underlying9 Tryd.underlying43 Tryd.underlying5
              have hox := ownX_bytes V4 W1.heap.size 5 f hS4.size (by have := HOK.out.1; unfold maxLen; omega)
              have hbb := below_bytes V4 5 f
              generalize Lib.bytesWorld V4 5 f = V5 at *
              generalize hxv : Value.slice (some ⟨V4.heap.size, 0, none⟩) f.size (grownCap V4 f.size 0 5) = x1 at *
              clear hxv
              go_simp
              replace hE0 := hE0.below hbb (Nat.le_refl _)
              replace hE2 := hE2.below hbb (Nat.le_refl _)
              have hE1 : Elt V5 W1.heap.size V5.heap.size x1 (f.data.toList) := Elt.ofX hox (Nat.le_refl _)
              have hS5 : Below W1.heap.size W1 V5 := hS4.trans (hbb.mono hS4.size)
              refine hK.out _ _ hS5 (fun hT => ?_)
              clear hK hcv hox hT
              try simp only [Act.put, List.setIfInBounds_toArray, List.set_cons_zero, List.set_cons_succ]
              clear hbb
              obtain ⟨A0, C0, hx⟩ := hE0.slice
              replace hx : x0 = .slice A0 (opF op).length C0 := hx
              subst hx
              obtain ⟨A1, C1, hx⟩ := hE1.slice
              replace hx : x1 = .slice A1 f.size C1 := hx
              subst hx
              obtain ⟨A2, C2, hx⟩ := hE2.slice
              replace hx : x2 = .slice A2 (numsF numT lo).length C2 := hx
              subst hx
              refine wpAnyH_ready (rs := [13]) (by kernel_rfl) (by simp) ?_
              refine' AllReadyH.cons (by simp only [List.getElem?_toArray, List.getElem?_cons_succ, List.getElem?_cons_zero]; rfl) (fun K hK => ?_) AllReadyH.nil
              have hRn := reads_new V5 43 [.slice A0 (opF op).length C0, .slice A1 f.size C1, .slice A2 (numsF numT lo).length C2] 3 rfl
              go_simp
              replace hE0 := hE0.below ((Below.refl _ V5).alloc (Nat.le_refl _) (.cells #[.slice A0 (opF op).length C0, .slice A1 f.size C1, .slice A2 (numsF numT lo).length C2] 43)) (Nat.le_refl _)
              replace hE2 := hE2.below ((Below.refl _ V5).alloc (Nat.le_refl _) (.cells #[.slice A0 (opF op).length C0, .slice A1 f.size C1, .slice A2 (numsF numT lo).length C2] 43)) (Nat.le_refl _)
              replace hE1 := hE1.below ((Below.refl _ V5).alloc (Nat.le_refl _) (.cells #[.slice A0 (opF op).length C0, .slice A1 f.size C1, .slice A2 (numsF numT lo).length C2] 43)) (Nat.le_refl _)
              have hS6 := Below.alloc hS5 hS5.size (.cells #[.slice A0 (opF op).length C0, .slice A1 f.size C1, .slice A2 (numsF numT lo).length C2] 43)
              generalize hAb : (some ⟨V5.heap.size, 0, none⟩ : Option Addr) = Ab at *
              clear hAb
              generalize V5.alloc (.cells #[.slice A0 (opF op).length C0, .slice A1 f.size C1, .slice A2 (numsF numT lo).length C2] 43) = V6 at *
              refine hK.out _ _ hS6 (fun hT => ?_)
              clear hK
              try simp only [Act.put, List.setIfInBounds_toArray, List.set_cons_zero, List.set_cons_succ]
              refine wpAnyH_ready (rs := [14]) (by kernel_rfl) (by simp) ?_
              refine' AllReadyH.cons (by simp only [List.getElem?_toArray, List.getElem?_cons_succ, List.getElem?_cons_zero]; rfl) (fun K hK => ?_) AllReadyH.nil
              refine step_append_any _ rfl (.tmp 72) (.tmp 85) 74 rfl W1.heap.size 43 j0 (.slice none 0 0) 1 24 Tryd.underlying74 hj1 hj2 hj3 hj4 rfl (by decide) (.slice none 0 0) 0 [] rfl (World.ownsRow_nil _ _ _ _) _ Ab 3 3 [.slice A0 (opF op).length C0, .slice A1 f.size C1, .slice A2 (numsF numT lo).length C2] rfl hRn (by intro y hy; simp only [List.mem_cons, List.not_mem_nil, or_false] at hy; rcases hy with rfl | rfl | rfl; exact hE0.one; exact hE1.one; exact hE2.one) (by decide) (by decide) hS6.size ?_
              intro v' w' ho hg _
              have hP : Parts W1.heap.size w' v' [opF op, f.data.toList, numsF numT lo] := parts_more (ps := []) (ps' := [opF op, f.data.toList, numsF numT lo]) (World.ownsRow_nil _ _ _ _) rfl (parts_one (xs := [.slice A0 (opF op).length C0, .slice A1 f.size C1]) (ps := [opF op, f.data.toList]) (parts_one (xs := [.slice A0 (opF op).length C0]) (ps := [opF op]) (parts_one (xs := []) (ps := []) (fun i x p h => by simp at h) rfl hE0) rfl hE1) rfl hE2) ho hg
              have hSe : Below W1.heap.size W1 w' := hS6.grown hg hS6.size (fun r e => by cases e)
              refine hK.out _ _ hSe (fun hT => ?_)
              clear hK
              try simp only [Act.put, List.setIfInBounds_toArray, List.set_cons_zero, List.set_cons_succ]
              refine' wpAnyH_take (i := 15) (v := _) (by simp only [List.getElem?_toArray, List.getElem?_cons_succ, List.getElem?_cons_zero]; rfl) (by kernel_rfl) (by kernel_rfl) (by kernel_rfl) (by rintro _ _ _ ⟨h, _⟩; cases h) (Or.inl ⟨by rfl, ?hm15_10⟩) hSe ?rm15_10
              case hm15_10 => intro V hSw; clear hSw; go_simp; try with_reducible rfl
              try simp only [Act.put, List.setIfInBounds_toArray, List.set_cons_zero, List.set_cons_succ]
              refine wpAnyH_done (by kernel_rfl) ?_ _
              exact ⟨rfl, .slice A0 (opF op).length C0, .slice A1 f.size C1, .slice A2 (numsF numT lo).length C2, gw, Ab, v', hP, hSe, rfl⟩
            exact AllReadyH.nil
          exact AllReadyH.nil
        refine' AllReadyH.cons (by simp only [List.getElem?_toArray, List.getElem?_cons_succ, List.getElem?_cons_zero]; rfl) (fun K hK => ?_) ?_
        · skip
          have hcv := Lib.run_convert_string_bytes (P := Tryd.prog) V1 9 43 5 f (u := .string) Tryd.underlying9 Tryd.underlying43 Tryd.underlying5
          have hox := ownX_bytes V1 W1.heap.size 5 f hS1.size (by have := HOK.out.1; unfold maxLen; omega)
          have hbb := below_bytes V1 5 f
          generalize Lib.bytesWorld V1 5 f = V3 at *
          generalize hxv : Value.slice (some ⟨V1.heap.size, 0, none⟩) f.size (grownCap V1 f.size 0 5) = x1 at *
          clear hxv
          go_simp
          have hE1 : Elt V3 W1.heap.size V3.heap.size x1 (f.data.toList) := Elt.ofX hox (Nat.le_refl _)
          have hS3 : Below W1.heap.size W1 V3 := hS1.trans (hbb.mono hS1.size)
          refine hK.out _ _ hS3 (fun hT => ?_)
          clear hK hcv hox hT
          try simp only [Act.put, List.setIfInBounds_toArray, List.set_cons_zero, List.set_cons_succ]
          clear hbb
          refine wpAnyH_ready (rs := [6, 12]) (by kernel_rfl) (by simp) ?_
          refine' AllReadyH.cons (by simp only [List.getElem?_toArray, List.getElem?_cons_succ, List.getElem?_cons_zero]; rfl) (fun K hK => ?_) ?_
          · skip
            have hcv := Lib.run_convert_string_bytes (P := Tryd.prog) V3 9 43 5 (str (opF op)) (u := .string) Tryd.underlying9 Tryd.underlying43 Tryd.underlying5
            have hox := ownX_bytes V3 W1.heap.size 5 (str (opF op)) hS3.size HOS.out
            have hbb := below_bytes V3 5 (str (opF op))
            generalize Lib.bytesWorld V3 5 (str (opF op)) = V4 at *
            generalize hxv : Value.slice (some ⟨V3.heap.size, 0, none⟩) (str (opF op)).size (grownCap V3 (str (opF op)).size 0 5) = x0 at *
            clear hxv
            go_simp
            replace hE1 := hE1.below hbb (Nat.le_refl _)
            have hE0 : Elt V4 W1.heap.size V4.heap.size x0 (opF op) := Elt.ofX hox (Nat.le_refl _)
            have hS4 : Below W1.heap.size W1 V4 := hS3.trans (hbb.mono hS3.size)
            refine hK.out _ _ hS4 (fun hT => ?_)
            clear hK hcv hox hT
            try simp only [Act.put, List.setIfInBounds_toArray, List.set_cons_zero, List.set_cons_succ]
            clear hbb
            refine wpAnyH_ready (rs := [12]) (by kernel_rfl) (by simp) ?_
            refine' AllReadyH.cons (by simp only [List.getElem?_toArray, List.getElem?_cons_succ, List.getElem?_cons_zero]; rfl) (fun K hK => ?_) ?_
            · skip
              go_simp
              refine (rnums_any _ _ lo _ ((HA.out.low.below (HW1.out.trans (hS4.mono HW1.out.size))).more (Nat.le_trans HW1.out.size hS4.size)) HOK.out.2.2.2.1.2 (by have := HOK.out.2.2.2.1.1; omega) HLq2.out).mono ?_
              rintro e V5 ⟨x2, rfl, ho, hb⟩
              have hE2 : Elt V5 W1.heap.size V5.heap.size x2 (numsF numT lo) := Elt.ofX (OwnX.of ho) hS4.size
              have hS5 : Below W1.heap.size W1 V5 := hS4.trans (hb.mono hS4.size)
              replace hE1 := hE1.below hb (Nat.le_refl _)
              replace hE0 := hE0.below hb (Nat.le_refl _)
              clear ho hb
              go_simp
              refine hK.out _ _ hS5 (fun hT => ?_)
              clear hK hT
              try simp only [Act.put, List.setIfInBounds_toArray, List.set_cons_zero, List.set_cons_succ]
              obtain ⟨A0, C0, hx⟩ := hE0.slice
              replace hx : x0 = .slice A0 (opF op).length C0 := hx
              subst hx
              obtain ⟨A1, C1, hx⟩ := hE1.slice
              replace hx : x1 = .slice A1 f.size C1 := hx
              subst hx
              obtain ⟨A2, C2, hx⟩ := hE2.slice
              replace hx : x2 = .slice A2 (numsF numT lo).length C2 := hx
              subst hx
              refine wpAnyH_ready (rs := [13]) (by kernel_rfl) (by simp) ?_
              refine' AllReadyH.cons (by simp only [List.getElem?_toArray, List.getElem?_cons_succ, List.getElem?_cons_zero]; rfl) (fun K hK => ?_) AllReadyH.nil
              have hRn := reads_new V5 43 [.slice A0 (opF op).length C0, .slice A1 f.size C1, .slice A2 (numsF numT lo).length C2] 3 rfl
              go_simp
              replace hE1 := hE1.below ((Below.refl _ V5).alloc (Nat.le_refl _) (.cells #[.slice A0 (opF op).length C0, .slice A1 f.size C1, .slice A2 (numsF numT lo).length C2] 43)) (Nat.le_refl _)
              replace hE0 := hE0.below ((Below.refl _ V5).alloc (Nat.le_refl _) (.cells #[.slice A0 (opF op).length C0, .slice A1 f.size C1, .slice A2 (numsF numT lo).length C2] 43)) (Nat.le_refl _)
              replace hE2 := hE2.below ((Below.refl _ V5).alloc (Nat.le_refl _) (.cells #[.slice A0 (opF op).length C0, .slice A1 f.size C1, .slice A2 (numsF numT lo).length C2] 43)) (Nat.le_refl _)
              have hS6 := Below.alloc hS5 hS5.size (.cells #[.slice A0 (opF op).length C0, .slice A1 f.size C1, .slice A2 (numsF numT lo).length C2] 43)
              generalize hAb : (some ⟨V5.heap.size, 0, none⟩ : Option Addr) = Ab at *
              clear hAb
              generalize V5.alloc (.cells #[.slice A0 (opF op).length C0, .slice A1 f.size C1, .slice A2 (numsF numT lo).length C2] 43) = V6 at *
              refine hK.out _ _ hS6 (fun hT => ?_)
              clear hK
              try simp only [Act.put, List.setIfInBounds_toArray, List.set_cons_zero, List.set_cons_succ]
              refine wpAnyH_ready (rs := [14]) (by kernel_rfl) (by simp) ?_
              refine' AllReadyH.cons (by simp only [List.getElem?_toArray, List.getElem?_cons_succ, List.getElem?_cons_zero]; rfl) (fun K hK => ?_) AllReadyH.nil
              refine step_append_any _ rfl (.tmp 72) (.tmp 85) 74 rfl W1.heap.size 43 j0 (.slice none 0 0) 1 24 Tryd.underlying74 hj1 hj2 hj3 hj4 rfl (by decide) (.slice none 0 0) 0 [] rfl (World.ownsRow_nil _ _ _ _) _ Ab 3 3 [.slice A0 (opF op).length C0, .slice A1 f.size C1, .slice A2 (numsF numT lo).length C2] rfl hRn (by intro y hy; simp only [List.mem_cons, List.not_mem_nil, or_false] at hy; rcases hy with rfl | rfl | rfl; exact hE0.one; exact hE1.one; exact hE2.one) (by decide) (by decide) hS6.size ?_
              intro v' w' ho hg _
              have hP : Parts W1.heap.size w' v' [opF op, f.data.toList, numsF numT lo] := parts_more (ps := []) (ps' := [opF op, f.data.toList, numsF numT lo]) (World.ownsRow_nil _ _ _ _) rfl (parts_one (xs := [.slice A0 (opF op).length C0, .slice A1 f.size C1]) (ps := [opF op, f.data.toList]) (parts_one (xs := [.slice A0 (opF op).length C0]) (ps := [opF op]) (parts_one (xs := []) (ps := []) (fun i x p h => by simp at h) rfl hE0) rfl hE1) rfl hE2) ho hg
              have hSe : Below W1.heap.size W1 w' := hS6.grown hg hS6.size (fun r e => by cases e)
              refine hK.out _ _ hSe (fun hT => ?_)
              clear hK
              try simp only [Act.put, List.setIfInBounds_toArray, List.set_cons_zero, List.set_cons_succ]
              refine' wpAnyH_take (i := 15) (v := _) (by simp only [List.getElem?_toArray, List.getElem?_cons_succ, List.getElem?_cons_zero]; rfl) (by kernel_rfl) (by kernel_rfl) (by kernel_rfl) (by rintro _ _ _ ⟨h, _⟩; cases h) (Or.inl ⟨by rfl, ?hm15_11⟩) hSe ?rm15_11
              case hm15_11 => intro V hSw; clear hSw; go_simp; try with_reducible rfl
              try simp only [Act.put, List.setIfInBounds_toArray, List.set_cons_zero, List.set_cons_succ]
              refine wpAnyH_done (by kernel_rfl) ?_ _
              exact ⟨rfl, .slice A0 (opF op).length C0, .slice A1 f.size C1, .slice A2 (numsF numT lo).length C2, gw, Ab, v', hP, hSe, rfl⟩
            exact AllReadyH.nil
          refine' AllReadyH.cons (by simp only [List.getElem?_toArray, List.getElem?_cons_succ, List.getElem?_cons_zero]; rfl) (fun K hK => ?_) ?_
          · skip
            go_simp
            refine (rnums_any _ _ lo _ ((HA.out.low.below (HW1.out.trans (hS3.mono HW1.out.size))).more (Nat.le_trans HW1.out.size hS3.size)) HOK.out.2.2.2.1.2 (by have := HOK.out.2.2.2.1.1; omega) HLq2.out).mono ?_
            rintro e V4 ⟨x2, rfl, ho, hb⟩
            have hE2 : Elt V4 W1.heap.size V4.heap.size x2 (numsF numT lo) := Elt.ofX (OwnX.of ho) hS3.size
            have hS4 : Below W1.heap.size W1 V4 := hS3.trans (hb.mono hS3.size)
            replace hE1 := hE1.below hb (Nat.le_refl _)
            clear ho hb
            go_simp
            refine hK.out _ _ hS4 (fun hT => ?_)
            clear hK hT
            try simp only [Act.put, List.setIfInBounds_toArray, List.set_cons_zero, List.set_cons_succ]
            refine wpAnyH_ready (rs := [6]) (by kernel_rfl) (by simp) ?_
            refine' AllReadyH.cons (by simp only [List.getElem?_toArray, List.getElem?_cons_succ, List.getElem?_cons_zero]; rfl) (fun K hK => ?_) ?_
            · skip
              have hcv := Lib.run_convert_string_bytes (P := Tryd.prog) V4 9 43 5 (str (opF op)) (u := .string) Tryd.underlying9 Tryd.underlying43 Tryd.underlying5
              have hox := ownX_bytes V4 W1.heap.size 5 (str (opF op)) hS4.size HOS.out
              have hbb := below_bytes V4 5 (str (opF op))
              generalize Lib.bytesWorld V4 5 (str (opF op)) = V5 at *
              generalize hxv : Value.slice (some ⟨V4.heap.size, 0, none⟩) (str (opF op)).size (grownCap V4 (str (opF op)).size 0 5) = x0 at *
              clear hxv
              go_simp
              replace hE1 := hE1.below hbb (Nat.le_refl _)
              replace hE2 := hE2.below hbb (Nat.le_refl _)
              have hE0 : Elt V5 W1.heap.size V5.heap.size x0 (opF op) := Elt.ofX hox (Nat.le_refl _)
              have hS5 : Below W1.heap.size W1 V5 := hS4.trans (hbb.mono hS4.size)
              refine hK.out _ _ hS5 (fun hT => ?_)
              clear hK hcv hox hT
              try simp only [Act.put, List.setIfInBounds_toArray, List.set_cons_zero, List.set_cons_succ]
              clear hbb
              obtain ⟨A0, C0, hx⟩ := hE0.slice
              replace hx : x0 = .slice A0 (opF op).length C0 := hx
              subst hx
              obtain ⟨A1, C1, hx⟩ := hE1.slice
              replace hx : x1 = .slice A1 f.size C1 := hx
              subst hx
              obtain ⟨A2, C2, hx⟩ := hE2.slice
              replace hx : x2 = .slice A2 (numsF numT lo).length C2 := hx
              subst hx
              refine wpAnyH_ready (rs := [13]) (by kernel_rfl) (by simp) ?_
              refine' AllReadyH.cons (by simp only [List.getElem?_toArray, List.getElem?_cons_succ, List.getElem?_cons_zero]; rfl) (fun K hK => ?_) AllReadyH.nil
              have hRn := reads_new V5 43 [.slice A0 (opF op).length C0, .slice A1 f.size C1, .slice A2 (numsF numT lo).length C2] 3 rfl
              go_simp
              replace hE1 := hE1.below ((Below.refl _ V5).alloc (Nat.le_refl _) (.cells #[.slice A0 (opF op).length C0, .slice A1 f.size C1, .slice A2 (numsF numT lo).length C2] 43)) (Nat.le_refl _)
              replace hE2 := hE2.below ((Below.refl _ V5).alloc (Nat.le_refl _) (.cells #[.slice A0 (opF op).length C0, .slice A1 f.size C1, .slice A2 (numsF numT lo).length C2] 43)) (Nat.le_refl _)
              replace hE0 := hE0.below ((Below.refl _ V5).alloc (Nat.le_refl _) (.cells #[.slice A0 (opF op).length C0, .slice A1 f.size C1, .slice A2 (numsF numT lo).length C2] 43)) (Nat.le_refl _)
              have hS6 := Below.alloc hS5 hS5.size (.cells #[.slice A0 (opF op).length C0, .slice A1 f.size C1, .slice A2 (numsF numT lo).length C2] 43)
              generalize hAb : (some ⟨V5.heap.size, 0, none⟩ : Option Addr) = Ab at *
              clear hAb
              generalize V5.alloc (.cells #[.slice A0 (opF op).length C0, .slice A1 f.size C1, .slice A2 (numsF numT lo).length C2] 43) = V6 at *
              refine hK.out _ _ hS6 (fun hT => ?_)
              clear hK
              try simp only [Act.put, List.setIfInBounds_toArray, List.set_cons_zero, List.set_cons_succ]
              refine wpAnyH_ready (rs := [14]) (by kernel_rfl) (by simp) ?_
              refine' AllReadyH.cons (by simp only [List.getElem?_toArray, List.getElem?_cons_succ, List.getElem?_cons_zero]; rfl) (fun K hK => ?_) AllReadyH.nil
              refine step_append_any _ rfl (.tmp 72) (.tmp 85) 74 rfl W1.heap.size 43 j0 (.slice none 0 0) 1 24 Tryd.underlying74 hj1 hj2 hj3 hj4 rfl (by decide) (.slice none 0 0) 0 [] rfl (World.ownsRow_nil _ _ _ _) _ Ab 3 3 [.slice A0 (opF op).length C0, .slice A1 f.size C1, .slice A2 (numsF numT lo).length C2] rfl hRn (by intro y hy; simp only [List.mem_cons, List.not_mem_nil, or_false] at hy; rcases hy with rfl | rfl | rfl; exact hE0.one; exact hE1.one; exact hE2.one) (by decide) (by decide) hS6.size ?_
              intro v' w' ho hg _
              have hP : Parts W1.heap.size w' v' [opF op, f.data.toList, numsF numT lo] := parts_more (ps := []) (ps' := [opF op, f.data.toList, numsF numT lo]) (World.ownsRow_nil _ _ _ _) rfl (parts_one (xs := [.slice A0 (opF op).length C0, .slice A1 f.size C1]) (ps := [opF op, f.data.toList]) (parts_one (xs := [.slice A0 (opF op).length C0]) (ps := [opF op]) (parts_one (xs := []) (ps := []) (fun i x p h => by simp at h) rfl hE0) rfl hE1) rfl hE2) ho hg
              have hSe : Below W1.heap.size W1 w' := hS6.grown hg hS6.size (fun r e => by cases e)
              refine hK.out _ _ hSe (fun hT => ?_)
              clear hK
              try simp only [Act.put, List.setIfInBounds_toArray, List.set_cons_zero, List.set_cons_succ]
              refine' wpAnyH_take (i := 15) (v := _) (by simp only [List.getElem?_toArray, List.getElem?_cons_succ, List.getElem?_cons_zero]; rfl) (by kernel_rfl) (by kernel_rfl) (by kernel_rfl) (by rintro _ _ _ ⟨h, _⟩; cases h) (Or.inl ⟨by rfl, ?hm15_12⟩) hSe ?rm15_12
              case hm15_12 => intro V hSw; clear hSw; go_simp; try with_reducible rfl
              try simp only [Act.put, List.setIfInBounds_toArray, List.set_cons_zero, List.set_cons_succ]
              refine wpAnyH_done (by kernel_rfl) ?_ _
              exact ⟨rfl, .slice A0 (opF op).length C0, .slice A1 f.size C1, .slice A2 (numsF numT lo).length C2, gw, Ab, v', hP, hSe, rfl⟩
            exact AllReadyH.nil
          exact AllReadyH.nil
        refine' AllReadyH.cons (by simp only [List.getElem?_toArray, List.getElem?_cons_succ, List.getElem?_cons_zero]; rfl) (fun K hK => ?_) ?_
        · skip
          go_simp
          refine (rnums_any _ _ lo _ ((HA.out.low.below (HW1.out.trans (hS1.mono HW1.out.size))).more (Nat.le_trans HW1.out.size hS1.size)) HOK.out.2.2.2.1.2 (by have := HOK.out.2.2.2.1.1; omega) HLq2.out).mono ?_
          rintro e V3 ⟨x2, rfl, ho, hb⟩
          have hE2 : Elt V3 W1.heap.size V3.heap.size x2 (numsF numT lo) := Elt.ofX (OwnX.of ho) hS1.size
          have hS3 : Below W1.heap.size W1 V3 := hS1.trans (hb.mono hS1.size)
          clear ho hb
          go_simp
          refine hK.out _ _ hS3 (fun hT => ?_)
          clear hK hT
          try simp only [Act.put, List.setIfInBounds_toArray, List.set_cons_zero, List.set_cons_succ]
          refine wpAnyH_ready (rs := [6, 9]) (by kernel_rfl) (by simp) ?_
          refine' AllReadyH.cons (by simp only [List.getElem?_toArray, List.getElem?_cons_succ, List.getElem?_cons_zero]; rfl) (fun K hK => ?_) ?_
          · skip
            have hcv := Lib.run_convert_string_bytes (P := Tryd.prog) V3 9 43 5 (str (opF op)) (u := .string) Tryd.underlying9 Tryd.underlying43 Tryd.underlying5
            have hox := ownX_bytes V3 W1.heap.size 5 (str (opF op)) hS3.size HOS.out
            have hbb := below_bytes V3 5 (str (opF op))
            generalize Lib.bytesWorld V3 5 (str (opF op)) = V4 at *
            generalize hxv : Value.slice (some ⟨V3.heap.size, 0, none⟩) (str (opF op)).size (grownCap V3 (str (opF op)).size 0 5) = x0 at *
            clear hxv
            go_simp
            replace hE2 := hE2.below hbb (Nat.le_refl _)
            have hE0 : Elt V4 W1.heap.size V4.heap.size x0 (opF op) := Elt.ofX hox (Nat.le_refl _)
            have hS4 : Below W1.heap.size W1 V4 := hS3.trans (hbb.mono hS3.size)
            refine hK.out _ _ hS4 (fun hT => ?_)
            clear hK hcv hox hT
            try simp only [Act.put, List.setIfInBounds_toArray, List.set_cons_zero, List.set_cons_succ]
            clear hbb
            refine wpAnyH_ready (rs := [9]) (by kernel_rfl) (by simp) ?_
            refine' AllReadyH.cons (by simp only [List.getElem?_toArray, List.getElem?_cons_succ, List.getElem?_cons_zero]; rfl) (fun K hK => ?_) ?_
            · skip
              have hcv := Lib.run_convert_string_bytes (P := Tryd.prog) V4 9 43 5 f (u := .string) Tryd.underlying9 Tryd.underlying43 Tryd.underlying5
              have hox := ownX_bytes V4 W1.heap.size 5 f hS4.size (by have := HOK.out.1; unfold maxLen; omega)
              have hbb := below_bytes V4 5 f
              generalize Lib.bytesWorld V4 5 f = V5 at *
              generalize hxv : Value.slice (some ⟨V4.heap.size, 0, none⟩) f.size (grownCap V4 f.size 0 5) = x1 at *
              clear hxv
              go_simp
              replace hE2 := hE2.below hbb (Nat.le_refl _)
              replace hE0 := hE0.below hbb (Nat.le_refl _)
              have hE1 : Elt V5 W1.heap.size V5.heap.size x1 (f.data.toList) := Elt.ofX hox (Nat.le_refl _)
              have hS5 : Below W1.heap.size W1 V5 := hS4.trans (hbb.mono hS4.size)
              refine hK.out _ _ hS5 (fun hT => ?_)
              clear hK hcv hox hT
              try simp only [Act.put, List.setIfInBounds_toArray, List.set_cons_zero, List.set_cons_succ]
              clear hbb
              obtain ⟨A0, C0, hx⟩ := hE0.slice
              replace hx : x0 = .slice A0 (opF op).length C0 := hx
              subst hx
              obtain ⟨A1, C1, hx⟩ := hE1.slice
              replace hx : x1 = .slice A1 f.size C1 := hx
              subst hx
              obtain ⟨A2, C2, hx⟩ := hE2.slice
              replace hx : x2 = .slice A2 (numsF numT lo).length C2 := hx
              subst hx
              refine wpAnyH_ready (rs := [13]) (by kernel_rfl) (by simp) ?_
              refine' AllReadyH.cons (by simp only [List.getElem?_toArray, List.getElem?_cons_succ, List.getElem?_cons_zero]; rfl) (fun K hK => ?_) AllReadyH.nil
              have hRn := reads_new V5 43 [.slice A0 (opF op).length C0, .slice A1 f.size C1, .slice A2 (numsF numT lo).length C2] 3 rfl
              go_simp
              replace hE2 := hE2.below ((Below.refl _ V5).alloc (Nat.le_refl _) (.cells #[.slice A0 (opF op).length C0, .slice A1 f.size C1, .slice A2 (numsF numT lo).length C2] 43)) (Nat.le_refl _)
              replace hE0 := hE0.below ((Below.refl _ V5).alloc (Nat.le_refl _) (.cells #[.slice A0 (opF op).length C0, .slice A1 f.size C1, .slice A2 (numsF numT lo).length C2] 43)) (Nat.le_refl _)
              replace hE1 := hE1.below ((Below.refl _ V5).alloc (Nat.le_refl _) (.cells #[.slice A0 (opF op).length C0, .slice A1 f.size C1, .slice A2 (numsF numT lo).length C2] 43)) (Nat.le_refl _)
              have hS6 := Below.alloc hS5 hS5.size (.cells #[.slice A0 (opF op).length C0, .slice A1 f.size C1, .slice A2 (numsF numT lo).length C2] 43)
              generalize hAb : (some ⟨V5.heap.size, 0, none⟩ : Option Addr) = Ab at *
              clear hAb
              generalize V5.alloc (.cells #[.slice A0 (opF op).length C0, .slice A1 f.size C1, .slice A2 (numsF numT lo).length C2] 43) = V6 at *
              refine hK.out _ _ hS6 (fun hT => ?_)
              clear hK
              try simp only [Act.put, List.setIfInBounds_toArray, List.set_cons_zero, List.set_cons_succ]
              refine wpAnyH_ready (rs := [14]) (by kernel_rfl) (by simp) ?_
              refine' AllReadyH.cons (by simp only [List.getElem?_toArray, List.getElem?_cons_succ, List.getElem?_cons_zero]; rfl) (fun K hK => ?_) AllReadyH.nil
              refine step_append_any _ rfl (.tmp 72) (.tmp 85) 74 rfl W1.heap.size 43 j0 (.slice none 0 0) 1 24 Tryd.underlying74 hj1 hj2 hj3 hj4 rfl (by decide) (.slice none 0 0) 0 [] rfl (World.ownsRow_nil _ _ _ _) _ Ab 3 3 [.slice A0 (opF op).length C0, .slice A1 f.size C1, .slice A2 (numsF numT lo).length C2] rfl hRn (by intro y hy; simp only [List.mem_cons, List.not_mem_nil, or_false] at hy; rcases hy with rfl | rfl | rfl; exact hE0.one; exact hE1.one; exact hE2.one) (by decide) (by decide) hS6.size ?_
              intro v' w' ho hg _
              have hP : Parts W1.heap.size w' v' [opF op, f.data.toList, numsF numT lo] := parts_more (ps := []) (ps' := [opF op, f.data.toList, numsF numT lo]) (World.ownsRow_nil _ _ _ _) rfl (parts_one (xs := [.slice A0 (opF op).length C0, .slice A1 f.size C1]) (ps := [opF op, f.data.toList]) (parts_one (xs := [.slice A0 (opF op).length C0]) (ps := [opF op]) (parts_one (xs := []) (ps := []) (fun i x p h => by simp at h) rfl hE0) rfl hE1) rfl hE2) ho hg
              have hSe : Below W1.heap.size W1 w' := hS6.grown hg hS6.size (fun r e => by cases e)
              refine hK.out _ _ hSe (fun hT => ?_)
              clear hK
              try simp only [Act.put, List.setIfInBounds_toArray, List.set_cons_zero, List.set_cons_succ]
              refine' wpAnyH_take (i := 15) (v := _) (by simp only [List.getElem?_toArray, List.getElem?_cons_succ, List.getElem?_cons_zero]; rfl) (by kernel_rfl) (by kernel_rfl) (by kernel_rfl) (by rintro _ _ _ ⟨h, _⟩; cases h) (Or.inl ⟨by rfl, ?hm15_13⟩) hSe ?rm15_13
              case hm15_13 => intro V hSw; clear hSw; go_simp; try with_reducible rfl
              try simp only [Act.put, List.setIfInBounds_toArray, List.set_cons_zero, List.set_cons_succ]
              refine wpAnyH_done (by kernel_rfl) ?_ _
              exact ⟨rfl, .slice A0 (opF op).length C0, .slice A1 f.size C1, .slice A2 (numsF numT lo).length C2, gw, Ab, v', hP, hSe, rfl⟩
            exact AllReadyH.nil
          refine' AllReadyH.cons (by simp only [List.getElem?_toArray, List.getElem?_cons_succ, List.getElem?_cons_zero]; rfl) (fun K hK => ?_) ?_
          · skip
            have hcv := Lib.run_convert_string_bytes (P := Tryd.prog) V3 9 43 5 f (u := .string) Tryd.underlying9 Tryd.underlying43 Tryd.underlying5
            have hox := ownX_bytes V3 W1.heap.size 5 f hS3.size (by have := HOK.out.1; unfold maxLen; omega)
            have hbb := below_bytes V3 5 f
            generalize Lib.bytesWorld V3 5 f = V4 at *
            generalize hxv : Value.slice (some ⟨V3.heap.size, 0, none⟩) f.size (grownCap V3 f.size 0 5) = x1 at *
            clear hxv
            go_simp
            replace hE2 := hE2.below hbb (Nat.le_refl _)
            have hE1 : Elt V4 W1.heap.size V4.heap.size x1 (f.data.toList) := Elt.ofX hox (Nat.le_refl _)
            have hS4 : Below W1.heap.size W1 V4 := hS3.trans (hbb.mono hS3.size)
            refine hK.out _ _ hS4 (fun hT => ?_)
            clear hK hcv hox hT
            try simp only [Act.put, List.setIfInBounds_toArray, List.set_cons_zero, List.set_cons_succ]
            clear hbb
            refine wpAnyH_ready (rs := [6]) (by kernel_rfl) (by simp) ?_
            refine' AllReadyH.cons (by simp only [List.getElem?_toArray, List.getElem?_cons_succ, List.getElem?_cons_zero]; rfl) (fun K hK => ?_) ?_
            · skip
              have hcv := Lib.run_convert_string_bytes (P := Tryd.prog) V4 9 43 5 (str (opF op)) (u := .string) Tryd.underlying9 Tryd.underlying43 Tryd.underlying5
              have hox := ownX_bytes V4 W1.heap.size 5 (str (opF op)) hS4.size HOS.out
              have hbb := below_bytes V4 5 (str (opF op))
              generalize Lib.bytesWorld V4 5 (str (opF op)) = V5 at *
              generalize hxv : Value.slice (some ⟨V4.heap.size, 0, none⟩) (str (opF op)).size (grownCap V4 (str (opF op)).size 0 5) = x0 at *
              clear hxv
              go_simp
              replace hE2 := hE2.below hbb (Nat.le_refl _)
              replace hE1 := hE1.below hbb (Nat.le_refl _)
              have hE0 : Elt V5 W1.heap.size V5.heap.size x0 (opF op) := Elt.ofX hox (Nat.le_refl _)
              have hS5 : Below W1.heap.size W1 V5 := hS4.trans (hbb.mono hS4.size)
              refine hK.out _ _ hS5 (fun hT => ?_)
              clear hK hcv hox hT
              try simp only [Act.put, List.setIfInBounds_toArray, List.set_cons_zero, List.set_cons_succ]
              clear hbb
              obtain ⟨A0, C0, hx⟩ := hE0.slice
              replace hx : x0 = .slice A0 (opF op).length C0 := hx
              subst hx
              obtain ⟨A1, C1, hx⟩ := hE1.slice
              replace hx : x1 = .slice A1 f.size C1 := hx
              subst hx
              obtain ⟨A2, C2, hx⟩ := hE2.slice
              replace hx : x2 = .slice A2 (numsF numT lo).length C2 := hx
              subst hx
              refine wpAnyH_ready (rs := [13]) (by kernel_rfl) (by simp) ?_
              refine' AllReadyH.cons (by simp only [List.getElem?_toArray, List.getElem?_cons_succ, List.getElem?_cons_zero]; rfl) (fun K hK => ?_) AllReadyH.nil
              have hRn := reads_new V5 43 [.slice A0 (opF op).length C0, .slice A1 f.size C1, .slice A2 (numsF numT lo).length C2] 3 rfl
              go_simp
              replace hE2 := hE2.below ((Below.refl _ V5).alloc (Nat.le_refl _) (.cells #[.slice A0 (opF op).length C0, .slice A1 f.size C1, .slice A2 (numsF numT lo).length C2] 43)) (Nat.le_refl _)
              replace hE1 := hE1.below ((Below.refl _ V5).alloc (Nat.le_refl _) (.cells #[.slice A0 (opF op).length C0, .slice A1 f.size C1, .slice A2 (numsF numT lo).length C2] 43)) (Nat.le_refl _)
              replace hE0 := hE0.below ((Below.refl _ V5).alloc (Nat.le_refl _) (.cells #[.slice A0 (opF op).length C0, .slice A1 f.size C1, .slice A2 (numsF numT lo).length C2] 43)) (Nat.le_refl _)
              have hS6 := Below.alloc hS5 hS5.size (.cells #[.slice A0 (opF op).length C0, .slice A1 f.size C1, .slice A2 (numsF numT lo).length C2] 43)
              generalize hAb : (some ⟨V5.heap.size, 0, none⟩ : Option Addr) = Ab at *
              clear hAb
              generalize V5.alloc (.cells #[.slice A0 (opF op).length C0, .slice A1 f.size C1, .slice A2 (numsF numT lo).length C2] 43) = V6 at *
              refine hK.out _ _ hS6 (fun hT => ?_)
              clear hK
              try simp only [Act.put, List.setIfInBounds_toArray, List.set_cons_zero, List.set_cons_succ]
              refine wpAnyH_ready (rs := [14]) (by kernel_rfl) (by simp) ?_
              refine' AllReadyH.cons (by simp only [List.getElem?_toArray, List.getElem?_cons_succ, List.getElem?_cons_zero]; rfl) (fun K hK => ?_) AllReadyH.nil
              refine step_append_any _ rfl (.tmp 72) (.tmp 85) 74 rfl W1.heap.size 43 j0 (.slice none 0 0) 1 24 Tryd.underlying74 hj1 hj2 hj3 hj4 rfl (by decide) (.slice none 0 0) 0 [] rfl (World.ownsRow_nil _ _ _ _) _ Ab 3 3 [.slice A0 (opF op).length C0, .slice A1 f.size C1, .slice A2 (numsF numT lo).length C2] rfl hRn (by intro y hy; simp only [List.mem_cons, List.not_mem_nil, or_false] at hy; rcases hy with rfl | rfl | rfl; exact hE0.one; exact hE1.one; exact hE2.one) (by decide) (by decide) hS6.size ?_
              intro v' w' ho hg _
              have hP : Parts W1.heap.size w' v' [opF op, f.data.toList, numsF numT lo] := parts_more (ps := []) (ps' := [opF op, f.data.toList, numsF numT lo]) (World.ownsRow_nil _ _ _ _) rfl (parts_one (xs := [.slice A0 (opF op).length C0, .slice A1 f.size C1]) (ps := [opF op, f.data.toList]) (parts_one (xs := [.slice A0 (opF op).length C0]) (ps := [opF op]) (parts_one (xs := []) (ps := []) (fun i x p h => by simp at h) rfl hE0) rfl hE1) rfl hE2) ho hg
              have hSe : Below W1.heap.size W1 w' := hS6.grown hg hS6.size (fun r e => by cases e)
              refine hK.out _ _ hSe (fun hT => ?_)
              clear hK
              try simp only [Act.put, List.setIfInBounds_toArray, List.set_cons_zero, List.set_cons_succ]
              refine' wpAnyH_take (i := 15) (v := _) (by simp only [List.getElem?_toArray, List.getElem?_cons_succ, List.getElem?_cons_zero]; rfl) (by kernel_rfl) (by kernel_rfl) (by kernel_rfl) (by rintro _ _ _ ⟨h, _⟩; cases h) (Or.inl ⟨by rfl, ?hm15_14⟩) hSe ?rm15_14
              case hm15_14 => intro V hSw; clear hSw; go_simp; try with_reducible rfl
              try simp only [Act.put, List.setIfInBounds_toArray, List.set_cons_zero, List.set_cons_succ]
              refine wpAnyH_done (by kernel_rfl) ?_ _
              exact ⟨rfl, .slice A0 (opF op).length C0, .slice A1 f.size C1, .slice A2 (numsF numT lo).length C2, gw, Ab, v', hP, hSe, rfl⟩
            exact AllReadyH.nil
          exact AllReadyH.nil
        exact AllReadyH.nil
      refine' AllReadyH.cons (by simp only [List.getElem?_toArray, List.getElem?_cons_succ, List.getElem?_cons_zero]; rfl) (fun K hK => ?_) ?_
      · skip
        have hcv := Lib.run_convert_string_bytes (P := Tryd.prog) V1 9 43 5 f (u := .string) Tryd.underlying9 Tryd.underlying43 Tryd.underlying5
        have hox := ownX_bytes V1 W1.heap.size 5 f hS1.size (by have := HOK.out.1; unfold maxLen; omega)
        have hbb := below_bytes V1 5 f
        generalize Lib.bytesWorld V1 5 f = V2 at *
        generalize hxv : Value.slice (some ⟨V1.heap.size, 0, none⟩) f.size (grownCap V1 f.size 0 5) = x1 at *
        clear hxv
        go_simp
        have hE1 : Elt V2 W1.heap.size V2.heap.size x1 (f.data.toList) := Elt.ofX hox (Nat.le_refl _)
        have hS2 : Below W1.heap.size W1 V2 := hS1.trans (hbb.mono hS1.size)
        refine hK.out _ _ hS2 (fun hT => ?_)
        clear hK hcv hox hT
        try simp only [Act.put, List.setIfInBounds_toArray, List.set_cons_zero, List.set_cons_succ]
        replace hcw := (hbb.cell (p := ⟨gw, op.toNat, none⟩) hgw).trans hcw
        replace hgw : gw < V2.heap.size := Nat.lt_of_lt_of_le hgw hbb.size
        clear hbb
        refine wpAnyH_ready (rs := [5, 12]) (by kernel_rfl) (by simp) ?_
        refine' AllReadyH.cons (by simp only [List.getElem?_toArray, List.getElem?_cons_succ, List.getElem?_cons_zero]; rfl) (fun K hK => ?_) ?_
        · skip
          go_simp
          refine hK.out _ _ hS2 (fun hT => ?_)
          clear hK hT
          try simp only [Act.put, List.setIfInBounds_toArray, List.set_cons_zero, List.set_cons_succ]
          refine wpAnyH_ready (rs := [6, 12]) (by kernel_rfl) (by simp) ?_
          refine' AllReadyH.cons (by simp only [List.getElem?_toArray, List.getElem?_cons_succ, List.getElem?_cons_zero]; rfl) (fun K hK => ?_) ?_
          · skip
            have hcv := Lib.run_convert_string_bytes (P := Tryd.prog) V2 9 43 5 (str (opF op)) (u := .string) Tryd.underlying9 Tryd.underlying43 Tryd.underlying5
            have hox := ownX_bytes V2 W1.heap.size 5 (str (opF op)) hS2.size HOS.out
            have hbb := below_bytes V2 5 (str (opF op))
            generalize Lib.bytesWorld V2 5 (str (opF op)) = V4 at *
            generalize hxv : Value.slice (some ⟨V2.heap.size, 0, none⟩) (str (opF op)).size (grownCap V2 (str (opF op)).size 0 5) = x0 at *
            clear hxv
            go_simp
            replace hE1 := hE1.below hbb (Nat.le_refl _)
            have hE0 : Elt V4 W1.heap.size V4.heap.size x0 (opF op) := Elt.ofX hox (Nat.le_refl _)
            have hS4 : Below W1.heap.size W1 V4 := hS2.trans (hbb.mono hS2.size)
            refine hK.out _ _ hS4 (fun hT => ?_)
            clear hK hcv hox hT
            try simp only [Act.put, List.setIfInBounds_toArray, List.set_cons_zero, List.set_cons_succ]
            clear hbb
            refine wpAnyH_ready (rs := [12]) (by kernel_rfl) (by simp) ?_
            refine' AllReadyH.cons (by simp only [List.getElem?_toArray, List.getElem?_cons_succ, List.getElem?_cons_zero]; rfl) (fun K hK => ?_) ?_
            · skip
              go_simp
              refine (rnums_any _ _ lo _ ((HA.out.low.below (HW1.out.trans (hS4.mono HW1.out.size))).more (Nat.le_trans HW1.out.size hS4.size)) HOK.out.2.2.2.1.2 (by have := HOK.out.2.2.2.1.1; omega) HLq2.out).mono ?_
              rintro e V5 ⟨x2, rfl, ho, hb⟩
              have hE2 : Elt V5 W1.heap.size V5.heap.size x2 (numsF numT lo) := Elt.ofX (OwnX.of ho) hS4.size
              have hS5 : Below W1.heap.size W1 V5 := hS4.trans (hb.mono hS4.size)
              replace hE1 := hE1.below hb (Nat.le_refl _)
              replace hE0 := hE0.below hb (Nat.le_refl _)
              clear ho hb
              go_simp
              refine hK.out _ _ hS5 (fun hT => ?_)
              clear hK hT
              try simp only [Act.put, List.setIfInBounds_toArray, List.set_cons_zero, List.set_cons_succ]
              obtain ⟨A0, C0, hx⟩ := hE0.slice
              replace hx : x0 = .slice A0 (opF op).length C0 := hx
              subst hx
              obtain ⟨A1, C1, hx⟩ := hE1.slice
              replace hx : x1 = .slice A1 f.size C1 := hx
              subst hx
              obtain ⟨A2, C2, hx⟩ := hE2.slice
              replace hx : x2 = .slice A2 (numsF numT lo).length C2 := hx
              subst hx
              refine wpAnyH_ready (rs := [13]) (by kernel_rfl) (by simp) ?_
              refine' AllReadyH.cons (by simp only [List.getElem?_toArray, List.getElem?_cons_succ, List.getElem?_cons_zero]; rfl) (fun K hK => ?_) AllReadyH.nil
              have hRn := reads_new V5 43 [.slice A0 (opF op).length C0, .slice A1 f.size C1, .slice A2 (numsF numT lo).length C2] 3 rfl
              go_simp
              replace hE1 := hE1.below ((Below.refl _ V5).alloc (Nat.le_refl _) (.cells #[.slice A0 (opF op).length C0, .slice A1 f.size C1, .slice A2 (numsF numT lo).length C2] 43)) (Nat.le_refl _)
              replace hE0 := hE0.below ((Below.refl _ V5).alloc (Nat.le_refl _) (.cells #[.slice A0 (opF op).length C0, .slice A1 f.size C1, .slice A2 (numsF numT lo).length C2] 43)) (Nat.le_refl _)
              replace hE2 := hE2.below ((Below.refl _ V5).alloc (Nat.le_refl _) (.cells #[.slice A0 (opF op).length C0, .slice A1 f.size C1, .slice A2 (numsF numT lo).length C2] 43)) (Nat.le_refl _)
              have hS6 := Below.alloc hS5 hS5.size (.cells #[.slice A0 (opF op).length C0, .slice A1 f.size C1, .slice A2 (numsF numT lo).length C2] 43)
              generalize hAb : (some ⟨V5.heap.size, 0, none⟩ : Option Addr) = Ab at *
              clear hAb
              generalize V5.alloc (.cells #[.slice A0 (opF op).length C0, .slice A1 f.size C1, .slice A2 (numsF numT lo).length C2] 43) = V6 at *
              refine hK.out _ _ hS6 (fun hT => ?_)
              clear hK
              try simp only [Act.put, List.setIfInBounds_toArray, List.set_cons_zero, List.set_cons_succ]
              refine wpAnyH_ready (rs := [14]) (by kernel_rfl) (by simp) ?_
              refine' AllReadyH.cons (by simp only [List.getElem?_toArray, List.getElem?_cons_succ, List.getElem?_cons_zero]; rfl) (fun K hK => ?_) AllReadyH.nil
              refine step_append_any _ rfl (.tmp 72) (.tmp 85) 74 rfl W1.heap.size 43 j0 (.slice none 0 0) 1 24 Tryd.underlying74 hj1 hj2 hj3 hj4 rfl (by decide) (.slice none 0 0) 0 [] rfl (World.ownsRow_nil _ _ _ _) _ Ab 3 3 [.slice A0 (opF op).length C0, .slice A1 f.size C1, .slice A2 (numsF numT lo).length C2] rfl hRn (by intro y hy; simp only [List.mem_cons, List.not_mem_nil, or_false] at hy; rcases hy with rfl | rfl | rfl; exact hE0.one; exact hE1.one; exact hE2.one) (by decide) (by decide) hS6.size ?_
              intro v' w' ho hg _
              have hP : Parts W1.heap.size w' v' [opF op, f.data.toList, numsF numT lo] := parts_more (ps := []) (ps' := [opF op, f.data.toList, numsF numT lo]) (World.ownsRow_nil _ _ _ _) rfl (parts_one (xs := [.slice A0 (opF op).length C0, .slice A1 f.size C1]) (ps := [opF op, f.data.toList]) (parts_one (xs := [.slice A0 (opF op).length C0]) (ps := [opF op]) (parts_one (xs := []) (ps := []) (fun i x p h => by simp at h) rfl hE0) rfl hE1) rfl hE2) ho hg
              have hSe : Below W1.heap.size W1 w' := hS6.grown hg hS6.size (fun r e => by cases e)
              refine hK.out _ _ hSe (fun hT => ?_)
              clear hK
              try simp only [Act.put, List.setIfInBounds_toArray, List.set_cons_zero, List.set_cons_succ]
              refine' wpAnyH_take (i := 15) (v := _) (by simp only [List.getElem?_toArray, List.getElem?_cons_succ, List.getElem?_cons_zero]; rfl) (by kernel_rfl) (by kernel_rfl) (by kernel_rfl) (by rintro _ _ _ ⟨h, _⟩; cases h) (Or.inl ⟨by rfl, ?hm15_15⟩) hSe ?rm15_15
              case hm15_15 => intro V hSw; clear hSw; go_simp; try with_reducible rfl
              try simp only [Act.put, List.setIfInBounds_toArray, List.set_cons_zero, List.set_cons_succ]
              refine wpAnyH_done (by kernel_rfl) ?_ _
              exact ⟨rfl, .slice A0 (opF op).length C0, .slice A1 f.size C1, .slice A2 (numsF numT lo).length C2, gw, Ab, v', hP, hSe, rfl⟩
            exact AllReadyH.nil
          refine' AllReadyH.cons (by simp only [List.getElem?_toArray, List.getElem?_cons_succ, List.getElem?_cons_zero]; rfl) (fun K hK => ?_) ?_
          · skip
            go_simp
            refine (rnums_any _ _ lo _ ((HA.out.low.below (HW1.out.trans (hS2.mono HW1.out.size))).more (Nat.le_trans HW1.out.size hS2.size)) HOK.out.2.2.2.1.2 (by have := HOK.out.2.2.2.1.1; omega) HLq2.out).mono ?_
            rintro e V4 ⟨x2, rfl, ho, hb⟩
            have hE2 : Elt V4 W1.heap.size V4.heap.size x2 (numsF numT lo) := Elt.ofX (OwnX.of ho) hS2.size
            have hS4 : Below W1.heap.size W1 V4 := hS2.trans (hb.mono hS2.size)
            replace hE1 := hE1.below hb (Nat.le_refl _)
            clear ho hb
            go_simp
            refine hK.out _ _ hS4 (fun hT => ?_)
            clear hK hT
            try simp only [Act.put, List.setIfInBounds_toArray, List.set_cons_zero, List.set_cons_succ]
            refine wpAnyH_ready (rs := [6]) (by kernel_rfl) (by simp) ?_
            refine' AllReadyH.cons (by simp only [List.getElem?_toArray, List.getElem?_cons_succ, List.getElem?_cons_zero]; rfl) (fun K hK => ?_) ?_
            · skip
              have hcv := Lib.run_convert_string_bytes (P := Tryd.prog) V4 9 43 5 (str (opF op)) (u := .string) Tryd.underlying9 Tryd.underlying43 Tryd.underlying5
              have hox := ownX_bytes V4 W1.heap.size 5 (str (opF op)) hS4.size HOS.out
              have hbb := below_bytes V4 5 (str (opF op))
              generalize Lib.bytesWorld V4 5 (str (opF op)) = V5 at *
              generalize hxv : Value.slice (some ⟨V4.heap.size, 0, none⟩) (str (opF op)).size (grownCap V4 (str (opF op)).size 0 5) = x0 at *
              clear hxv
              go_simp
              replace hE1 := hE1.below hbb (Nat.le_refl _)
              replace hE2 := hE2.below hbb (Nat.le_refl _)
              have hE0 : Elt V5 W1.heap.size V5.heap.size x0 (opF op) := Elt.ofX hox (Nat.le_refl _)
              have hS5 : Below W1.heap.size W1 V5 := hS4.trans (hbb.mono hS4.size)
              refine hK.out _ _ hS5 (fun hT => ?_)
              clear hK hcv hox hT
              try simp only [Act.put, List.setIfInBounds_toArray, List.set_cons_zero, List.set_cons_succ]
              clear hbb
              obtain ⟨A0, C0, hx⟩ := hE0.slice
              replace hx : x0 = .slice A0 (opF op).length C0 := hx
              subst hx
              obtain ⟨A1, C1, hx⟩ := hE1.slice
              replace hx : x1 = .slice A1 f.size C1 := hx
              subst hx
              obtain ⟨A2, C2, hx⟩ := hE2.slice
              replace hx : x2 = .slice A2 (numsF numT lo).length C2 := hx
              subst hx
              refine wpAnyH_ready (rs := [13]) (by kernel_rfl) (by simp) ?_
              refine' AllReadyH.cons (by simp only [List.getElem?_toArray, List.getElem?_cons_succ, List.getElem?_cons_zero]; rfl) (fun K hK => ?_) AllReadyH.nil
              have hRn := reads_new V5 43 [.slice A0 (opF op).length C0, .slice A1 f.size C1, .slice A2 (numsF numT lo).length C2] 3 rfl
              go_simp
              replace hE1 := hE1.below ((Below.refl _ V5).alloc (Nat.le_refl _) (.cells #[.slice A0 (opF op).length C0, .slice A1 f.size C1, .slice A2 (numsF numT lo).length C2] 43)) (Nat.le_refl _)
              replace hE2 := hE2.below ((Below.refl _ V5).alloc (Nat.le_refl _) (.cells #[.slice A0 (opF op).length C0, .slice A1 f.size C1, .slice A2 (numsF numT lo).length C2] 43)) (Nat.le_refl _)
              replace hE0 := hE0.below ((Below.refl _ V5).alloc (Nat.le_refl _) (.cells #[.slice A0 (opF op).length C0, .slice A1 f.size C1, .slice A2 (numsF numT lo).length C2] 43)) (Nat.le_refl _)
              have hS6 := Below.alloc hS5 hS5.size (.cells #[.slice A0 (opF op).length C0, .slice A1 f.size C1, .slice A2 (numsF numT lo).length C2] 43)
              generalize hAb : (some ⟨V5.heap.size, 0, none⟩ : Option Addr) = Ab at *
              clear hAb
              generalize V5.alloc (.cells #[.slice A0 (opF op).length C0, .slice A1 f.size C1, .slice A2 (numsF numT lo).length C2] 43) = V6 at *
              refine hK.out _ _ hS6 (fun hT => ?_)
              clear hK
              try simp only [Act.put, List.setIfInBounds_toArray, List.set_cons_zero, List.set_cons_succ]
              refine wpAnyH_ready (rs := [14]) (by kernel_rfl) (by simp) ?_
              refine' AllReadyH.cons (by simp only [List.getElem?_toArray, List.getElem?_cons_succ, List.getElem?_cons_zero]; rfl) (fun K hK => ?_) AllReadyH.nil
              refine step_append_any _ rfl (.tmp 72) (.tmp 85) 74 rfl W1.heap.size 43 j0 (.slice none 0 0) 1 24 Tryd.underlying74 hj1 hj2 hj3 hj4 rfl (by decide) (.slice none 0 0) 0 [] rfl (World.ownsRow_nil _ _ _ _) _ Ab 3 3 [.slice A0 (opF op).length C0, .slice A1 f.size C1, .slice A2 (numsF numT lo).length C2] rfl hRn (by intro y hy; simp only [List.mem_cons, List.not_mem_nil, or_false] at hy; rcases hy with rfl | rfl | rfl; exact hE0.one; exact hE1.one; exact hE2.one) (by decide) (by decide) hS6.size ?_
              intro v' w' ho hg _
              have hP : Parts W1.heap.size w' v' [opF op, f.data.toList, numsF numT lo] := parts_more (ps := []) (ps' := [opF op, f.data.toList, numsF numT lo]) (World.ownsRow_nil _ _ _ _) rfl (parts_one (xs := [.slice A0 (opF op).length C0, .slice A1 f.size C1]) (ps := [opF op, f.data.toList]) (parts_one (xs := [.slice A0 (opF op).length C0]) (ps := [opF op]) (parts_one (xs := []) (ps := []) (fun i x p h => by simp at h) rfl hE0) rfl hE1) rfl hE2) ho hg
              have hSe : Below W1.heap.size W1 w' := hS6.grown hg hS6.size (fun r e => by cases e)
              refine hK.out _ _ hSe (fun hT => ?_)
              clear hK
              try simp only [Act.put, List.setIfInBounds_toArray, List.set_cons_zero, List.set_cons_succ]
              refine' wpAnyH_take (i := 15) (v := _) (by simp only [List.getElem?_toArray, List.getElem?_cons_succ, List.getElem?_cons_zero]; rfl) (by kernel_rfl) (by kernel_rfl) (by kernel_rfl) (by rintro _ _ _ ⟨h, _⟩; cases h) (Or.inl ⟨by rfl, ?hm15_16⟩) hSe ?rm15_16
              case hm15_16 => intro V hSw; clear hSw; go_simp; try with_reducible rfl
              try simp only [Act.put, List.setIfInBounds_toArray, List.set_cons_zero, List.set_cons_succ]
              refine wpAnyH_done (by kernel_rfl) ?_ _
              exact ⟨rfl, .slice A0 (opF op).length C0, .slice A1 f.size C1, .slice A2 (numsF numT lo).length C2, gw, Ab, v', hP, hSe, rfl⟩
            exact AllReadyH.nil
          exact AllReadyH.nil
        refine' AllReadyH.cons (by simp only [List.getElem?_toArray, List.getElem?_cons_succ, List.getElem?_cons_zero]; rfl) (fun K hK => ?_) ?_
        · skip
          go_simp
          refine (rnums_any _ _ lo _ ((HA.out.low.below (HW1.out.trans (hS2.mono HW1.out.size))).more (Nat.le_trans HW1.out.size hS2.size)) HOK.out.2.2.2.1.2 (by have := HOK.out.2.2.2.1.1; omega) HLq2.out).mono ?_
          rintro e V3 ⟨x2, rfl, ho, hb⟩
          have hE2 : Elt V3 W1.heap.size V3.heap.size x2 (numsF numT lo) := Elt.ofX (OwnX.of ho) hS2.size
          have hS3 : Below W1.heap.size W1 V3 := hS2.trans (hb.mono hS2.size)
          replace hE1 := hE1.below hb (Nat.le_refl _)
          replace hcw := (hb.cell (p := ⟨gw, op.toNat, none⟩) hgw).trans hcw
          replace hgw : gw < V3.heap.size := Nat.lt_of_lt_of_le hgw hb.size
          clear ho hb
          go_simp
          refine hK.out _ _ hS3 (fun hT => ?_)
          clear hK hT
          try simp only [Act.put, List.setIfInBounds_toArray, List.set_cons_zero, List.set_cons_succ]
          refine wpAnyH_ready (rs := [5]) (by kernel_rfl) (by simp) ?_
          refine' AllReadyH.cons (by simp only [List.getElem?_toArray, List.getElem?_cons_succ, List.getElem?_cons_zero]; rfl) (fun K hK => ?_) ?_
          · skip
            go_simp
            refine hK.out _ _ hS3 (fun hT => ?_)
            clear hK hT
            try simp only [Act.put, List.setIfInBounds_toArray, List.set_cons_zero, List.set_cons_succ]
            refine wpAnyH_ready (rs := [6]) (by kernel_rfl) (by simp) ?_
            refine' AllReadyH.cons (by simp only [List.getElem?_toArray, List.getElem?_cons_succ, List.getElem?_cons_zero]; rfl) (fun K hK => ?_) ?_
            · skip
              have hcv := Lib.run_convert_string_bytes (P := Tryd.prog) V3 9 43 5 (str (opF op)) (u := .string) Tryd.underlying9 Tryd.underlying43 Tryd.underlying5
              have hox := ownX_bytes V3 W1.heap.size 5 (str (opF op)) hS3.size HOS.out
              have hbb := below_bytes V3 5 (str (opF op))
              generalize Lib.bytesWorld V3 5 (str (opF op)) = V5 at *
              generalize hxv : Value.slice (some ⟨V3.heap.size, 0, none⟩) (str (opF op)).size (grownCap V3 (str (opF op)).size 0 5) = x0 at *
              clear hxv
              go_simp
              replace hE1 := hE1.below hbb (Nat.le_refl _)
              replace hE2 := hE2.below hbb (Nat.le_refl _)
              have hE0 : Elt V5 W1.heap.size V5.heap.size x0 (opF op) := Elt.ofX hox (Nat.le_refl _)
              have hS5 : Below W1.heap.size W1 V5 := hS3.trans (hbb.mono hS3.size)
              refine hK.out _ _ hS5 (fun hT => ?_)
              clear hK hcv hox hT
              try simp only [Act.put, List.setIfInBounds_toArray, List.set_cons_zero, List.set_cons_succ]
              clear hbb
              obtain ⟨A0, C0, hx⟩ := hE0.slice
              replace hx : x0 = .slice A0 (opF op).length C0 := hx
              subst hx
              obtain ⟨A1, C1, hx⟩ := hE1.slice
              replace hx : x1 = .slice A1 f.size C1 := hx
              subst hx
              obtain ⟨A2, C2, hx⟩ := hE2.slice
              replace hx : x2 = .slice A2 (numsF numT lo).length C2 := hx
              subst hx
              refine wpAnyH_ready (rs := [13]) (by kernel_rfl) (by simp) ?_
              refine' AllReadyH.cons (by simp only [List.getElem?_toArray, List.getElem?_cons_succ, List.getElem?_cons_zero]; rfl) (fun K hK => ?_) AllReadyH.nil
              have hRn := reads_new V5 43 [.slice A0 (opF op).length C0, .slice A1 f.size C1, .slice A2 (numsF numT lo).length C2] 3 rfl
              go_simp
              replace hE1 := hE1.below ((Below.refl _ V5).alloc (Nat.le_refl _) (.cells #[.slice A0 (opF op).length C0, .slice A1 f.size C1, .slice A2 (numsF numT lo).length C2] 43)) (Nat.le_refl _)
              replace hE2 := hE2.below ((Below.refl _ V5).alloc (Nat.le_refl _) (.cells #[.slice A0 (opF op).length C0, .slice A1 f.size C1, .slice A2 (numsF numT lo).length C2] 43)) (Nat.le_refl _)
              replace hE0 := hE0.below ((Below.refl _ V5).alloc (Nat.le_refl _) (.cells #[.slice A0 (opF op).length C0, .slice A1 f.size C1, .slice A2 (numsF numT lo).length C2] 43)) (Nat.le_refl _)
              have hS6 := Below.alloc hS5 hS5.size (.cells #[.slice A0 (opF op).length C0, .slice A1 f.size C1, .slice A2 (numsF numT lo).length C2] 43)
              generalize hAb : (some ⟨V5.heap.size, 0, none⟩ : Option Addr) = Ab at *
              clear hAb
              generalize V5.alloc (.cells #[.slice A0 (opF op).length C0, .slice A1 f.size C1, .slice A2 (numsF numT lo).length C2] 43) = V6 at *
              refine hK.out _ _ hS6 (fun hT => ?_)
              clear hK
              try simp only [Act.put, List.setIfInBounds_toArray, List.set_cons_zero, List.set_cons_succ]
              refine wpAnyH_ready (rs := [14]) (by kernel_rfl) (by simp) ?_
              refine' AllReadyH.cons (by simp only [List.getElem?_toArray, List.getElem?_cons_succ, List.getElem?_cons_zero]; rfl) (fun K hK => ?_) AllReadyH.nil
              refine step_append_any _ rfl (.tmp 72) (.tmp 85) 74 rfl W1.heap.size 43 j0 (.slice none 0 0) 1 24 Tryd.underlying74 hj1 hj2 hj3 hj4 rfl (by decide) (.slice none 0 0) 0 [] rfl (World.ownsRow_nil _ _ _ _) _ Ab 3 3 [.slice A0 (opF op).length C0, .slice A1 f.size C1, .slice A2 (numsF numT lo).length C2] rfl hRn (by intro y hy; simp only [List.mem_cons, List.not_mem_nil, or_false] at hy; rcases hy with rfl | rfl | rfl; exact hE0.one; exact hE1.one; exact hE2.one) (by decide) (by decide) hS6.size ?_
              intro v' w' ho hg _
              have hP : Parts W1.heap.size w' v' [opF op, f.data.toList, numsF numT lo] := parts_more (ps := []) (ps' := [opF op, f.data.toList, numsF numT lo]) (World.ownsRow_nil _ _ _ _) rfl (parts_one (xs := [.slice A0 (opF op).length C0, .slice A1 f.size C1]) (ps := [opF op, f.data.toList]) (parts_one (xs := [.slice A0 (opF op).length C0]) (ps := [opF op]) (parts_one (xs := []) (ps := []) (fun i x p h => by simp at h) rfl hE0) rfl hE1) rfl hE2) ho hg
              have hSe : Below W1.heap.size W1 w' := hS6.grown hg hS6.size (fun r e => by cases e)
              refine hK.out _ _ hSe (fun hT => ?_)
              clear hK
              try simp only [Act.put, List.setIfInBounds_toArray, List.set_cons_zero, List.set_cons_succ]
              refine' wpAnyH_take (i := 15) (v := _) (by simp only [List.getElem?_toArray, List.getElem?_cons_succ, List.getElem?_cons_zero]; rfl) (by kernel_rfl) (by kernel_rfl) (by kernel_rfl) (by rintro _ _ _ ⟨h, _⟩; cases h) (Or.inl ⟨by rfl, ?hm15_17⟩) hSe ?rm15_17
              case hm15_17 => intro V hSw; clear hSw; go_simp; try with_reducible rfl
              try simp only [Act.put, List.setIfInBounds_toArray, List.set_cons_zero, List.set_cons_succ]
              refine wpAnyH_done (by kernel_rfl) ?_ _
              exact ⟨rfl, .slice A0 (opF op).length C0, .slice A1 f.size C1, .slice A2 (numsF numT lo).length C2, gw, Ab, v', hP, hSe, rfl⟩
            exact AllReadyH.nil
          exact AllReadyH.nil
        exact AllReadyH.nil
      refine' AllReadyH.cons (by simp only [List.getElem?_toArray, List.getElem?_cons_succ, List.getElem?_cons_zero]; rfl) (fun K hK => ?_) ?_
      · skip
        go_simp
        refine (rnums_any _ _ lo _ ((HA.out.low.below (HW1.out.trans (hS1.mono HW1.out.size))).more (Nat.le_trans HW1.out.size hS1.size)) HOK.out.2.2.2.1.2 (by have := HOK.out.2.2.2.1.1; omega) HLq2.out).mono ?_
        rintro e V2 ⟨x2, rfl, ho, hb⟩
        have hE2 : Elt V2 W1.heap.size V2.heap.size x2 (numsF numT lo) := Elt.ofX (OwnX.of ho) hS1.size
        have hS2 : Below W1.heap.size W1 V2 := hS1.trans (hb.mono hS1.size)
        replace hcw := (hb.cell (p := ⟨gw, op.toNat, none⟩) hgw).trans hcw
        replace hgw : gw < V2.heap.size := Nat.lt_of_lt_of_le hgw hb.size
        clear ho hb
        go_simp
        refine hK.out _ _ hS2 (fun hT => ?_)
        clear hK hT
        try simp only [Act.put, List.setIfInBounds_toArray, List.set_cons_zero, List.set_cons_succ]
        refine wpAnyH_ready (rs := [5, 9]) (by kernel_rfl) (by simp) ?_
        refine' AllReadyH.cons (by simp only [List.getElem?_toArray, List.getElem?_cons_succ, List.getElem?_cons_zero]; rfl) (fun K hK => ?_) ?_
        · skip
          go_simp
          refine hK.out _ _ hS2 (fun hT => ?_)
          clear hK hT
          try simp only [Act.put, List.setIfInBounds_toArray, List.set_cons_zero, List.set_cons_succ]
          refine wpAnyH_ready (rs := [6, 9]) (by kernel_rfl) (by simp) ?_
          refine' AllReadyH.cons (by simp only [List.getElem?_toArray, List.getElem?_cons_succ, List.getElem?_cons_zero]; rfl) (fun K hK => ?_) ?_
          · skip
            have hcv := Lib.run_convert_string_bytes (P := Tryd.prog) V2 9 43 5 (str (opF op)) (u := .string) Tryd.underlying9 Tryd.underlying43 Tryd.underlying5
            have hox := ownX_bytes V2 W1.heap.size 5 (str (opF op)) hS2.size HOS.out
            have hbb := below_bytes V2 5 (str (opF op))
            generalize Lib.bytesWorld V2 5 (str (opF op)) = V4 at *
            generalize hxv : Value.slice (some ⟨V2.heap.size, 0, none⟩) (str (opF op)).size (grownCap V2 (str (opF op)).size 0 5) = x0 at *
            clear hxv
            go_simp
            replace hE2 := hE2.below hbb (Nat.le_refl _)
            have hE0 : Elt V4 W1.heap.size V4.heap.size x0 (opF op) := Elt.ofX hox (Nat.le_refl _)
            have hS4 : Below W1.heap.size W1 V4 := hS2.trans (hbb.mono hS2.size)
            refine hK.out _ _ hS4 (fun hT => ?_)
            clear hK hcv hox hT
            try simp only [Act.put, List.setIfInBounds_toArray, List.set_cons_zero, List.set_cons_succ]
            clear hbb
            refine wpAnyH_ready (rs := [9]) (by kernel_rfl) (by simp) ?_
            refine' AllReadyH.cons (by simp only [List.getElem?_toArray, List.getElem?_cons_succ, List.getElem?_cons_zero]; rfl) (fun K hK => ?_) ?_
            · skip
              have hcv := Lib.run_convert_string_bytes (P := Tryd.prog) V4 9 43 5 f (u := .string) Tryd.underlying9 Tryd.underlying43 Tryd.underlying5
              have hox := ownX_bytes V4 W1.heap.size 5 f hS4.size (by have := HOK.out.1; unfold maxLen; omega)
              have hbb := below_bytes V4 5 f
              generalize Lib.bytesWorld V4 5 f = V5 at *
              generalize hxv : Value.slice (some ⟨V4.heap.size, 0, none⟩) f.size (grownCap V4 f.size 0 5) = x1 at *
              clear hxv
              go_simp
              replace hE2 := hE2.below hbb (Nat.le_refl _)
              replace hE0 := hE0.below hbb (Nat.le_refl _)
              have hE1 : Elt V5 W1.heap.size V5.heap.size x1 (f.data.toList) := Elt.ofX hox (Nat.le_refl _)
              have hS5 : Below W1.heap.size W1 V5 := hS4.trans (hbb.mono hS4.size)
              refine hK.out _ _ hS5 (fun hT => ?_)
              clear hK hcv hox hT
              try simp only [Act.put, List.setIfInBounds_toArray, List.set_cons_zero, List.set_cons_succ]
              clear hbb
              obtain ⟨A0, C0, hx⟩ := hE0.slice
              replace hx : x0 = .slice A0 (opF op).length C0 := hx
              subst hx
              obtain ⟨A1, C1, hx⟩ := hE1.slice
              replace hx : x1 = .slice A1 f.size C1 := hx
              subst hx
              obtain ⟨A2, C2, hx⟩ := hE2.slice
              replace hx : x2 = .slice A2 (numsF numT lo).length C2 := hx
              subst hx
              refine wpAnyH_ready (rs := [13]) (by kernel_rfl) (by simp) ?_
              refine' AllReadyH.cons (by simp only [List.getElem?_toArray, List.getElem?_cons_succ, List.getElem?_cons_zero]; rfl) (fun K hK => ?_) AllReadyH.nil
              have hRn := reads_new V5 43 [.slice A0 (opF op).length C0, .slice A1 f.size C1, .slice A2 (numsF numT lo).length C2] 3 rfl
              go_simp
              replace hE2 := hE2.below ((Below.refl _ V5).alloc (Nat.le_refl _) (.cells #[.slice A0 (opF op).length C0, .slice A1 f.size C1, .slice A2 (numsF numT lo).length C2] 43)) (Nat.le_refl _)
              replace hE0 := hE0.below ((Below.refl _ V5).alloc (Nat.le_refl _) (.cells #[.slice A0 (opF op).length C0, .slice A1 f.size C1, .slice A2 (numsF numT lo).length C2] 43)) (Nat.le_refl _)
              replace hE1 := hE1.below ((Below.refl _ V5).alloc (Nat.le_refl _) (.cells #[.slice A0 (opF op).length C0, .slice A1 f.size C1, .slice A2 (numsF numT lo).length C2] 43)) (Nat.le_refl _)
              have hS6 := Below.alloc hS5 hS5.size (.cells #[.slice A0 (opF op).length C0, .slice A1 f.size C1, .slice A2 (numsF numT lo).length C2] 43)
              generalize hAb : (some ⟨V5.heap.size, 0, none⟩ : Option Addr) = Ab at *
              clear hAb
              generalize V5.alloc (.cells #[.slice A0 (opF op).length C0, .slice A1 f.size C1, .slice A2 (numsF numT lo).length C2] 43) = V6 at *
              refine hK.out _ _ hS6 (fun hT => ?_)
              clear hK
              try simp only [Act.put, List.setIfInBounds_toArray, List.set_cons_zero, List.set_cons_succ]
              refine wpAnyH_ready (rs := [14]) (by kernel_rfl) (by simp) ?_
              refine' AllReadyH.cons (by simp only [List.getElem?_toArray, List.getElem?_cons_succ, List.getElem?_cons_zero]; rfl) (fun K hK => ?_) AllReadyH.nil
              refine step_append_any _ rfl (.tmp 72) (.tmp 85) 74 rfl W1.heap.size 43 j0 (.slice none 0 0) 1 24 Tryd.underlying74 hj1 hj2 hj3 hj4 rfl (by decide) (.slice none 0 0) 0 [] rfl (World.ownsRow_nil _ _ _ _) _ Ab 3 3 [.slice A0 (opF op).length C0, .slice A1 f.size C1, .slice A2 (numsF numT lo).length C2] rfl hRn (by intro y hy; simp only [List.mem_cons, List.not_mem_nil, or_false] at hy; rcases hy with rfl | rfl | rfl; exact hE0.one; exact hE1.one; exact hE2.one) (by decide) (by decide) hS6.size ?_
              intro v' w' ho hg _
              have hP : Parts W1.heap.size w' v' [opF op, f.data.toList, numsF numT lo] := parts_more (ps := []) (ps' := [opF op, f.data.toList, numsF numT lo]) (World.ownsRow_nil _ _ _ _) rfl (parts_one (xs := [.slice A0 (opF op).length C0, .slice A1 f.size C1]) (ps := [opF op, f.data.toList]) (parts_one (xs := [.slice A0 (opF op).length C0]) (ps := [opF op]) (parts_one (xs := []) (ps := []) (fun i x p h => by simp at h) rfl hE0) rfl hE1) rfl hE2) ho hg
              have hSe : Below W1.heap.size W1 w' := hS6.grown hg hS6.size (fun r e => by cases e)
              refine hK.out _ _ hSe (fun hT => ?_)
              clear hK
              try simp only [Act.put, List.setIfInBounds_toArray, List.set_cons_zero, List.set_cons_succ]
              refine' wpAnyH_take (i := 15) (v := _) (by simp only [List.getElem?_toArray, List.getElem?_cons_succ, List.getElem?_cons_zero]; rfl) (by kernel_rfl) (by kernel_rfl) (by kernel_rfl) (by rintro _ _ _ ⟨h, _⟩; cases h) (Or.inl ⟨by rfl, ?hm15_18⟩) hSe ?rm15_18
              case hm15_18 => intro V hSw; clear hSw; go_simp; try with_reducible rfl
              try simp only [Act.put, List.setIfInBounds_toArray, List.set_cons_zero, List.set_cons_succ]
              refine wpAnyH_done (by kernel_rfl) ?_ _
              exact ⟨rfl, .slice A0 (opF op).length C0, .slice A1 f.size C1, .slice A2 (numsF numT lo).length C2, gw, Ab, v', hP, hSe, rfl⟩
            exact AllReadyH.nil
          refine' AllReadyH.cons (by simp only [List.getElem?_toArray, List.getElem?_cons_succ, List.getElem?_cons_zero]; rfl) (fun K hK => ?_) ?_
          · skip
            have hcv := Lib.run_convert_string_bytes (P := Tryd.prog) V2 9 43 5 f (u := .string) Tryd.underlying9 Tryd.underlying43 Tryd.underlying5
            have hox := ownX_bytes V2 W1.heap.size 5 f hS2.size (by have := HOK.out.1; unfold maxLen; omega)
            have hbb := below_bytes V2 5 f
            generalize Lib.bytesWorld V2 5 f = V4 at *
            generalize hxv : Value.slice (some ⟨V2.heap.size, 0, none⟩) f.size (grownCap V2 f.size 0 5) = x1 at *
            clear hxv
            go_simp
            replace hE2 := hE2.below hbb (Nat.le_refl _)
            have hE1 : Elt V4 W1.heap.size V4.heap.size x1 (f.data.toList) := Elt.ofX hox (Nat.le_refl _)
            have hS4 : Below W1.heap.size W1 V4 := hS2.trans (hbb.mono hS2.size)
            refine hK.out _ _ hS4 (fun hT => ?_)
            clear hK hcv hox hT
            try simp only [Act.put, List.setIfInBounds_toArray, List.set_cons_zero, List.set_cons_succ]
            clear hbb
            refine wpAnyH_ready (rs := [6]) (by kernel_rfl) (by simp) ?_
            refine' AllReadyH.cons (by simp only [List.getElem?_toArray, List.getElem?_cons_succ, List.getElem?_cons_zero]; rfl) (fun K hK => ?_) ?_
            · skip
              have hcv := Lib.run_convert_string_bytes (P := Tryd.prog) V4 9 43 5 (str (opF op)) (u := .string) Tryd.underlying9 Tryd.underlying43 Tryd.underlying5
              have hox := ownX_bytes V4 W1.heap.size 5 (str (opF op)) hS4.size HOS.out
              have hbb := below_bytes V4 5 (str (opF op))
              generalize Lib.bytesWorld V4 5 (str (opF op)) = V5 at *
              generalize hxv : Value.slice (some ⟨V4.heap.size, 0, none⟩) (str (opF op)).size (grownCap V4 (str (opF op)).size 0 5) = x0 at *
              clear hxv
              go_simp
              replace hE2 := hE2.below hbb (Nat.le_refl _)
              replace hE1 := hE1.below hbb (Nat.le_refl _)
              have hE0 : Elt V5 W1.heap.size V5.heap.size x0 (opF op) := Elt.ofX hox (Nat.le_refl _)
              have hS5 : Below W1.heap.size W1 V5 := hS4.trans (hbb.mono hS4.size)
              refine hK.out _ _ hS5 (fun hT => ?_)
              clear hK hcv hox hT
              try simp only [Act.put, List.setIfInBounds_toArray, List.set_cons_zero, List.set_cons_succ]
              clear hbb
              obtain ⟨A0, C0, hx⟩ := hE0.slice
              replace hx : x0 = .slice A0 (opF op).length C0 := hx
              subst hx
              obtain ⟨A1, C1, hx⟩ := hE1.slice
              replace hx : x1 = .slice A1 f.size C1 := hx
              subst hx
              obtain ⟨A2, C2, hx⟩ := hE2.slice
              replace hx : x2 = .slice A2 (numsF numT lo).length C2 := hx
              subst hx
              refine wpAnyH_ready (rs := [13]) (by kernel_rfl) (by simp) ?_
              refine' AllReadyH.cons (by simp only [List.getElem?_toArray, List.getElem?_cons_succ, List.getElem?_cons_zero]; rfl) (fun K hK => ?_) AllReadyH.nil
              have hRn := reads_new V5 43 [.slice A0 (opF op).length C0, .slice A1 f.size C1, .slice A2 (numsF numT lo).length C2] 3 rfl
              go_simp
              replace hE2 := hE2.below ((Below.refl _ V5).alloc (Nat.le_refl _) (.cells #[.slice A0 (opF op).length C0, .slice A1 f.size C1, .slice A2 (numsF numT lo).length C2] 43)) (Nat.le_refl _)
              replace hE1 := hE1.below ((Below.refl _ V5).alloc (Nat.le_refl _) (.cells #[.slice A0 (opF op).length C0, .slice A1 f.size C1, .slice A2 (numsF numT lo).length C2] 43)) (Nat.le_refl _)
              replace hE0 := hE0.below ((Below.refl _ V5).alloc (Nat.le_refl _) (.cells #[.slice A0 (opF op).length C0, .slice A1 f.size C1, .slice A2 (numsF numT lo).length C2] 43)) (Nat.le_refl _)
              have hS6 := Below.alloc hS5 hS5.size (.cells #[.slice A0 (opF op).length C0, .slice A1 f.size C1, .slice A2 (numsF numT lo).length C2] 43)
              generalize hAb : (some ⟨V5.heap.size, 0, none⟩ : Option Addr) = Ab at *
              clear hAb
              generalize V5.alloc (.cells #[.slice A0 (opF op).length C0, .slice A1 f.size C1, .slice A2 (numsF numT lo).length C2] 43) = V6 at *
              refine hK.out _ _ hS6 (fun hT => ?_)
              clear hK
              try simp only [Act.put, List.setIfInBounds_toArray, List.set_cons_zero, List.set_cons_succ]
              refine wpAnyH_ready (rs := [14]) (by kernel_rfl) (by simp) ?_
              refine' AllReadyH.cons (by simp only [List.getElem?_toArray, List.getElem?_cons_succ, List.getElem?_cons_zero]; rfl) (fun K hK => ?_) AllReadyH.nil
              refine step_append_any _ rfl (.tmp 72) (.tmp 85) 74 rfl W1.heap.size 43 j0 (.slice none 0 0) 1 24 Tryd.underlying74 hj1 hj2 hj3 hj4 rfl (by decide) (.slice none 0 0) 0 [] rfl (World.ownsRow_nil _ _ _ _) _ Ab 3 3 [.slice A0 (opF op).length C0, .slice A1 f.size C1, .slice A2 (numsF numT lo).length C2] rfl hRn (by intro y hy; simp only [List.mem_cons, List.not_mem_nil, or_false] at hy; rcases hy with rfl | rfl | rfl; exact hE0.one; exact hE1.one; exact hE2.one) (by decide) (by decide) hS6.size ?_
              intro v' w' ho hg _
              have hP : Parts W1.heap.size w' v' [opF op, f.data.toList, numsF numT lo] := parts_more (ps := []) (ps' := [opF op, f.data.toList, numsF numT lo]) (World.ownsRow_nil _ _ _ _) rfl (parts_one (xs := [.slice A0 (opF op).length C0, .slice A1 f.size C1]) (ps := [opF op, f.data.toList]) (parts_one (xs := [.slice A0 (opF op).length C0]) (ps := [opF op]) (parts_one (xs := []) (ps := []) (fun i x p h => by simp at h) rfl hE0) rfl hE1) rfl hE2) ho hg
              have hSe : Below W1.heap.size W1 w' := hS6.grown hg hS6.size (fun r e => by cases e)
              refine hK.out _ _ hSe (fun hT => ?_)
              clear hK
              try simp only [Act.put, List.setIfInBounds_toArray, List.set_cons_zero, List.set_cons_succ]
              refine' wpAnyH_take (i := 15) (v := _) (by simp only [List.getElem?_toArray, List.getElem?_cons_succ, List.getElem?_cons_zero]; rfl) (by kernel_rfl) (by kernel_rfl) (by kernel_rfl) (by rintro _ _ _ ⟨h, _⟩; cases h) (Or.inl ⟨by rfl, ?hm15_19⟩) hSe ?rm15_19
              case hm15_19 => intro V hSw; clear hSw; go_simp; try with_reducible rfl
              try simp only [Act.put, List.setIfInBounds_toArray, List.set_cons_zero, List.set_cons_succ]
              refine wpAnyH_done (by kernel_rfl) ?_ _
              exact ⟨rfl, .slice A0 (opF op).length C0, .slice A1 f.size C1, .slice A2 (numsF numT lo).length C2, gw, Ab, v', hP, hSe, rfl⟩
            exact AllReadyH.nil
          exact AllReadyH.nil
        refine' AllReadyH.cons (by simp only [List.getElem?_toArray, List.getElem?_cons_succ, List.getElem?_cons_zero]; rfl) (fun K hK => ?_) ?_
        · skip
          have hcv := Lib.run_convert_string_bytes (P := Tryd.prog) V2 9 43 5 f (u := .string) Tryd.underlying9 Tryd.underlying43 Tryd.underlying5
          have hox := ownX_bytes V2 W1.heap.size 5 f hS2.size (by have := HOK.out.1; unfold maxLen; omega)
          have hbb := below_bytes V2 5 f
          generalize Lib.bytesWorld V2 5 f = V3 at *
          generalize hxv : Value.slice (some ⟨V2.heap.size, 0, none⟩) f.size (grownCap V2 f.size 0 5) = x1 at *
          clear hxv
          go_simp
          replace hE2 := hE2.below hbb (Nat.le_refl _)
          have hE1 : Elt V3 W1.heap.size V3.heap.size x1 (f.data.toList) := Elt.ofX hox (Nat.le_refl _)
          have hS3 : Below W1.heap.size W1 V3 := hS2.trans (hbb.mono hS2.size)
          refine hK.out _ _ hS3 (fun hT => ?_)
          clear hK hcv hox hT
          try simp only [Act.put, List.setIfInBounds_toArray, List.set_cons_zero, List.set_cons_succ]
          replace hcw := (hbb.cell (p := ⟨gw, op.toNat, none⟩) hgw).trans hcw
          replace hgw : gw < V3.heap.size := Nat.lt_of_lt_of_le hgw hbb.size
          clear hbb
          refine wpAnyH_ready (rs := [5]) (by kernel_rfl) (by simp) ?_
          refine' AllReadyH.cons (by simp only [List.getElem?_toArray, List.getElem?_cons_succ, List.getElem?_cons_zero]; rfl) (fun K hK => ?_) ?_
          · skip
            go_simp
            refine hK.out _ _ hS3 (fun hT => ?_)
            clear hK hT
            try simp only [Act.put, List.setIfInBounds_toArray, List.set_cons_zero, List.set_cons_succ]
            refine wpAnyH_ready (rs := [6]) (by kernel_rfl) (by simp) ?_
            refine' AllReadyH.cons (by simp only [List.getElem?_toArray, List.getElem?_cons_succ, List.getElem?_cons_zero]; rfl) (fun K hK => ?_) ?_
            · skip
              have hcv := Lib.run_convert_string_bytes (P := Tryd.prog) V3 9 43 5 (str (opF op)) (u := .string) Tryd.underlying9 Tryd.underlying43 Tryd.underlying5
              have hox := ownX_bytes V3 W1.heap.size 5 (str (opF op)) hS3.size HOS.out
              have hbb := below_bytes V3 5 (str (opF op))
              generalize Lib.bytesWorld V3 5 (str (opF op)) = V5 at *
              generalize hxv : Value.slice (some ⟨V3.heap.size, 0, none⟩) (str (opF op)).size (grownCap V3 (str (opF op)).size 0 5) = x0 at *
              clear hxv
              go_simp
              replace hE2 := hE2.below hbb (Nat.le_refl _)
              replace hE1 := hE1.below hbb (Nat.le_refl _)
              have hE0 : Elt V5 W1.heap.size V5.heap.size x0 (opF op) := Elt.ofX hox (Nat.le_refl _)
              have hS5 : Below W1.heap.size W1 V5 := hS3.trans (hbb.mono hS3.size)
              refine hK.out _ _ hS5 (fun hT => ?_)
              clear hK hcv hox hT
              try simp only [Act.put, List.setIfInBounds_toArray, List.set_cons_zero, List.set_cons_succ]
              clear hbb
              obtain ⟨A0, C0, hx⟩ := hE0.slice
              replace hx : x0 = .slice A0 (opF op).length C0 := hx
              subst hx
              obtain ⟨A1, C1, hx⟩ := hE1.slice
              replace hx : x1 = .slice A1 f.size C1 := hx
              subst hx
              obtain ⟨A2, C2, hx⟩ := hE2.slice
              replace hx : x2 = .slice A2 (numsF numT lo).length C2 := hx
              subst hx
              refine wpAnyH_ready (rs := [13]) (by kernel_rfl) (by simp) ?_
              refine' AllReadyH.cons (by simp only [List.getElem?_toArray, List.getElem?_cons_succ, List.getElem?_cons_zero]; rfl) (fun K hK => ?_) AllReadyH.nil
              have hRn := reads_new V5 43 [.slice A0 (opF op).length C0, .slice A1 f.size C1, .slice A2 (numsF numT lo).length C2] 3 rfl
              go_simp
              replace hE2 := hE2.below ((Below.refl _ V5).alloc (Nat.le_refl _) (.cells #[.slice A0 (opF op).length C0, .slice A1 f.size C1, .slice A2 (numsF numT lo).length C2] 43)) (Nat.le_refl _)
              replace hE1 := hE1.below ((Below.refl _ V5).alloc (Nat.le_refl _) (.cells #[.slice A0 (opF op).length C0, .slice A1 f.size C1, .slice A2 (numsF numT lo).length C2] 43)) (Nat.le_refl _)
              replace hE0 := hE0.below ((Below.refl _ V5).alloc (Nat.le_refl _) (.cells #[.slice A0 (opF op).length C0, .slice A1 f.size C1, .slice A2 (numsF numT lo).length C2] 43)) (Nat.le_refl _)
              have hS6 := Below.alloc hS5 hS5.size (.cells #[.slice A0 (opF op).length C0, .slice A1 f.size C1, .slice A2 (numsF numT lo).length C2] 43)
              generalize hAb : (some ⟨V5.heap.size, 0, none⟩ : Option Addr) = Ab at *
              clear hAb
              generalize V5.alloc (.cells #[.slice A0 (opF op).length C0, .slice A1 f.size C1, .slice A2 (numsF numT lo).length C2] 43) = V6 at *
              refine hK.out _ _ hS6 (fun hT => ?_)
              clear hK
              try simp only [Act.put, List.setIfInBounds_toArray, List.set_cons_zero, List.set_cons_succ]
              refine wpAnyH_ready (rs := [14]) (by kernel_rfl) (by simp) ?_
              refine' AllReadyH.cons (by simp only [List.getElem?_toArray, List.getElem?_cons_succ, List.getElem?_cons_zero]; rfl) (fun K hK => ?_) AllReadyH.nil
              refine step_append_any _ rfl (.tmp 72) (.tmp 85) 74 rfl W1.heap.size 43 j0 (.slice none 0 0) 1 24 Tryd.underlying74 hj1 hj2 hj3 hj4 rfl (by decide) (.slice none 0 0) 0 [] rfl (World.ownsRow_nil _ _ _ _) _ Ab 3 3 [.slice A0 (opF op).length C0, .slice A1 f.size C1, .slice A2 (numsF numT lo).length C2] rfl hRn (by intro y hy; simp only [List.mem_cons, List.not_mem_nil, or_false] at hy; rcases hy with rfl | rfl | rfl; exact hE0.one; exact hE1.one; exact hE2.one) (by decide) (by decide) hS6.size ?_
              intro v' w' ho hg _
              have hP : Parts W1.heap.size w' v' [opF op, f.data.toList, numsF numT lo] := parts_more (ps := []) (ps' := [opF op, f.data.toList, numsF numT lo]) (World.ownsRow_nil _ _ _ _) rfl (parts_one (xs := [.slice A0 (opF op).length C0, .slice A1 f.size C1]) (ps := [opF op, f.data.toList]) (parts_one (xs := [.slice A0 (opF op).length C0]) (ps := [opF op]) (parts_one (xs := []) (ps := []) (fun i x p h => by simp at h) rfl hE0) rfl hE1) rfl hE2) ho hg
              have hSe : Below W1.heap.size W1 w' := hS6.grown hg hS6.size (fun r e => by cases e)
              refine hK.out _ _ hSe (fun hT => ?_)
              clear hK
              try simp only [Act.put, List.setIfInBounds_toArray, List.set_cons_zero, List.set_cons_succ]
              refine' wpAnyH_take (i := 15) (v := _) (by simp only [List.getElem?_toArray, List.getElem?_cons_succ, List.getElem?_cons_zero]; rfl) (by kernel_rfl) (by kernel_rfl) (by kernel_rfl) (by rintro _ _ _ ⟨h, _⟩; cases h) (Or.inl ⟨by rfl, ?hm15_20⟩) hSe ?rm15_20
              case hm15_20 => intro V hSw; clear hSw; go_simp; try with_reducible rfl
              try simp only [Act.put, List.setIfInBounds_toArray, List.set_cons_zero, List.set_cons_succ]
              refine wpAnyH_done (by kernel_rfl) ?_ _
              exact ⟨rfl, .slice A0 (opF op).length C0, .slice A1 f.size C1, .slice A2 (numsF numT lo).length C2, gw, Ab, v', hP, hSe, rfl⟩
            exact AllReadyH.nil
          exact AllReadyH.nil
        exact AllReadyH.nil
      exact AllReadyH.nil
    refine' AllReadyH.cons (by simp only [List.getElem?_toArray, List.getElem?_cons_succ, List.getElem?_cons_zero]; rfl) (fun K hK => ?_) ?_
    · skip
      have hcv := Lib.run_convert_string_bytes (P := Tryd.prog) V0 9 43 5 f (u := .string) Tryd.underlying9 Tryd.underlying43 Tryd.underlying5
      have hox := ownX_bytes V0 W1.heap.size 5 f hS0.size (by have := HOK.out.1; unfold maxLen; omega)
      have hbb := below_bytes V0 5 f
      generalize Lib.bytesWorld V0 5 f = V1 at *
      generalize hxv : Value.slice (some ⟨V0.heap.size, 0, none⟩) f.size (grownCap V0 f.size 0 5) = x1 at *
      clear hxv
      go_simp
      have hE1 : Elt V1 W1.heap.size V1.heap.size x1 (f.data.toList) := Elt.ofX hox (Nat.le_refl _)
      have hS1 : Below W1.heap.size W1 V1 := hS0.trans (hbb.mono hS0.size)
      refine hK.out _ _ hS1 (fun hT => ?_)
      clear hK hcv hox hT
      try simp only [Act.put, List.setIfInBounds_toArray, List.set_cons_zero, List.set_cons_succ]
      clear hbb
      refine wpAnyH_ready (rs := [1]) (by kernel_rfl) (by simp) ?_
      refine' AllReadyH.cons (by simp only [List.getElem?_toArray, List.getElem?_cons_succ, List.getElem?_cons_zero]; rfl) (fun K hK => ?_) ?_
      · skip
        go_simp
        refine (rops_any _).mono ?_
        rintro e V2 ⟨rfl, hb, hc⟩
        have hcw := hc op hop3.1 hop3.2
        have hgw : V1.heap.size < V2.heap.size := by
          rcases Nat.lt_or_ge V1.heap.size V2.heap.size with h' | h'
          · exact h'
          · simp [World.cell?, Array.getElem?_eq_none h'] at hcw
        have hS2 : Below W1.heap.size W1 V2 := hS1.trans (hb.mono hS1.size)
        replace hE1 := hE1.below hb (Nat.le_refl _)
        clear hb hc
        obtain ⟨gw, hgwe⟩ : ∃ g, g = V1.heap.size := ⟨_, rfl⟩
        rw [← hgwe] at hcw hgw ⊢
        clear hgwe
        go_simp
        refine hK.out _ _ hS2 (fun hT => ?_)
        clear hK hT
        try simp only [Act.put, List.setIfInBounds_toArray, List.set_cons_zero, List.set_cons_succ]
        refine' wpAnyH_take (i := 4) (v := _) (by simp only [List.getElem?_toArray, List.getElem?_cons_succ, List.getElem?_cons_zero]; rfl) (by kernel_rfl) (by kernel_rfl) (by kernel_rfl) (by rintro _ _ _ ⟨h, _⟩; cases h) (Or.inl ⟨by rfl, ?hm4_21⟩) hS2 ?rm4_21
        case hm4_21 => intro V hSw; have f1 : (0 : Int) ≤ op := (by omega); have f2 : op < 4 := (by omega); clear hSw; go_simp; try with_reducible rfl
        try simp only [Act.put, List.setIfInBounds_toArray, List.set_cons_zero, List.set_cons_succ]
        refine wpAnyH_ready (rs := [5, 12]) (by kernel_rfl) (by simp) ?_
        refine' AllReadyH.cons (by simp only [List.getElem?_toArray, List.getElem?_cons_succ, List.getElem?_cons_zero]; rfl) (fun K hK => ?_) ?_
        · skip
          go_simp
          refine hK.out _ _ hS2 (fun hT => ?_)
          clear hK hT
          try simp only [Act.put, List.setIfInBounds_toArray, List.set_cons_zero, List.set_cons_succ]
          refine wpAnyH_ready (rs := [6, 12]) (by kernel_rfl) (by simp) ?_
          refine' AllReadyH.cons (by simp only [List.getElem?_toArray, List.getElem?_cons_succ, List.getElem?_cons_zero]; rfl) (fun K hK => ?_) ?_
          · skip
            have hcv := Lib.run_convert_string_bytes (P := Tryd.prog) V2 9 43 5 (str (opF op)) (u := .string) Tryd.underlying9 Tryd.underlying43 Tryd.underlying5
            have hox := ownX_bytes V2 W1.heap.size 5 (str (opF op)) hS2.size HOS.out
            have hbb := below_bytes V2 5 (str (opF op))
            generalize Lib.bytesWorld V2 5 (str (opF op)) = V4 at *
            generalize hxv : Value.slice (some ⟨V2.heap.size, 0, none⟩) (str (opF op)).size (grownCap V2 (str (opF op)).size 0 5) = x0 at *
            clear hxv
            go_simp
            replace hE1 := hE1.below hbb (Nat.le_refl _)
            have hE0 : Elt V4 W1.heap.size V4.heap.size x0 (opF op) := Elt.ofX hox (Nat.le_refl _)
            have hS4 : Below W1.heap.size W1 V4 := hS2.trans (hbb.mono hS2.size)
            refine hK.out _ _ hS4 (fun hT => ?_)
            clear hK hcv hox hT
            try simp only [Act.put, List.setIfInBounds_toArray, List.set_cons_zero, List.set_cons_succ]
            clear hbb
            refine wpAnyH_ready (rs := [12]) (by kernel_rfl) (by simp) ?_
            refine' AllReadyH.cons (by simp only [List.getElem?_toArray, List.getElem?_cons_succ, List.getElem?_cons_zero]; rfl) (fun K hK => ?_) ?_
            · skip
              go_simp
              refine (rnums_any _ _ lo _ ((HA.out.low.below (HW1.out.trans (hS4.mono HW1.out.size))).more (Nat.le_trans HW1.out.size hS4.size)) HOK.out.2.2.2.1.2 (by have := HOK.out.2.2.2.1.1; omega) HLq2.out).mono ?_
              rintro e V5 ⟨x2, rfl, ho, hb⟩
              have hE2 : Elt V5 W1.heap.size V5.heap.size x2 (numsF numT lo) := Elt.ofX (OwnX.of ho) hS4.size
              have hS5 : Below W1.heap.size W1 V5 := hS4.trans (hb.mono hS4.size)
              replace hE1 := hE1.below hb (Nat.le_refl _)
              replace hE0 := hE0.below hb (Nat.le_refl _)
              clear ho hb
              go_simp
              refine hK.out _ _ hS5 (fun hT => ?_)
              clear hK hT
              try simp only [Act.put, List.setIfInBounds_toArray, List.set_cons_zero, List.set_cons_succ]
              obtain ⟨A0, C0, hx⟩ := hE0.slice
              replace hx : x0 = .slice A0 (opF op).length C0 := hx
              subst hx
              obtain ⟨A1, C1, hx⟩ := hE1.slice
              replace hx : x1 = .slice A1 f.size C1 := hx
              subst hx
              obtain ⟨A2, C2, hx⟩ := hE2.slice
              replace hx : x2 = .slice A2 (numsF numT lo).length C2 := hx
              subst hx
              refine wpAnyH_ready (rs := [13]) (by kernel_rfl) (by simp) ?_
              refine' AllReadyH.cons (by simp only [List.getElem?_toArray, List.getElem?_cons_succ, List.getElem?_cons_zero]; rfl) (fun K hK => ?_) AllReadyH.nil
              have hRn := reads_new V5 43 [.slice A0 (opF op).length C0, .slice A1 f.size C1, .slice A2 (numsF numT lo).length C2] 3 rfl
              go_simp
              replace hE1 := hE1.below ((Below.refl _ V5).alloc (Nat.le_refl _) (.cells #[.slice A0 (opF op).length C0, .slice A1 f.size C1, .slice A2 (numsF numT lo).length C2] 43)) (Nat.le_refl _)
              replace hE0 := hE0.below ((Below.refl _ V5).alloc (Nat.le_refl _) (.cells #[.slice A0 (opF op).length C0, .slice A1 f.size C1, .slice A2 (numsF numT lo).length C2] 43)) (Nat.le_refl _)
              replace hE2 := hE2.below ((Below.refl _ V5).alloc (Nat.le_refl _) (.cells #[.slice A0 (opF op).length C0, .slice A1 f.size C1, .slice A2 (numsF numT lo).length C2] 43)) (Nat.le_refl _)
              have hS6 := Below.alloc hS5 hS5.size (.cells #[.slice A0 (opF op).length C0, .slice A1 f.size C1, .slice A2 (numsF numT lo).length C2] 43)
              generalize hAb : (some ⟨V5.heap.size, 0, none⟩ : Option Addr) = Ab at *
              clear hAb
              generalize V5.alloc (.cells #[.slice A0 (opF op).length C0, .slice A1 f.size C1, .slice A2 (numsF numT lo).length C2] 43) = V6 at *
              refine hK.out _ _ hS6 (fun hT => ?_)
              clear hK
              try simp only [Act.put, List.setIfInBounds_toArray, List.set_cons_zero, List.set_cons_succ]
              refine wpAnyH_ready (rs := [14]) (by kernel_rfl) (by simp) ?_
              refine' AllReadyH.cons (by simp only [List.getElem?_toArray, List.getElem?_cons_succ, List.getElem?_cons_zero]; rfl) (fun K hK => ?_) AllReadyH.nil
              refine step_append_any _ rfl (.tmp 72) (.tmp 85) 74 rfl W1.heap.size 43 j0 (.slice none 0 0) 1 24 Tryd.underlying74 hj1 hj2 hj3 hj4 rfl (by decide) (.slice none 0 0) 0 [] rfl (World.ownsRow_nil _ _ _ _) _ Ab 3 3 [.slice A0 (opF op).length C0, .slice A1 f.size C1, .slice A2 (numsF numT lo).length C2] rfl hRn (by intro y hy; simp only [List.mem_cons, List.not_mem_nil, or_false] at hy; rcases hy with rfl | rfl | rfl; exact hE0.one; exact hE1.one; exact hE2.one) (by decide) (by decide) hS6.size ?_
              intro v' w' ho hg _
              have hP : Parts W1.heap.size w' v' [opF op, f.data.toList, numsF numT lo] := parts_more (ps := []) (ps' := [opF op, f.data.toList, numsF numT lo]) (World.ownsRow_nil _ _ _ _) rfl (parts_one (xs := [.slice A0 (opF op).length C0, .slice A1 f.size C1]) (ps := [opF op, f.data.toList]) (parts_one (xs := [.slice A0 (opF op).length C0]) (ps := [opF op]) (parts_one (xs := []) (ps := []) (fun i x p h => by simp at h) rfl hE0) rfl hE1) rfl hE2) ho hg
              have hSe : Below W1.heap.size W1 w' := hS6.grown hg hS6.size (fun r e => by cases e)
              refine hK.out _ _ hSe (fun hT => ?_)
              clear hK
              try simp only [Act.put, List.setIfInBounds_toArray, List.set_cons_zero, List.set_cons_succ]
              refine' wpAnyH_take (i := 15) (v := _) (by simp only [List.getElem?_toArray, List.getElem?_cons_succ, List.getElem?_cons_zero]; rfl) (by kernel_rfl) (by kernel_rfl) (by kernel_rfl) (by rintro _ _ _ ⟨h, _⟩; cases h) (Or.inl ⟨by rfl, ?hm15_22⟩) hSe ?rm15_22
              case hm15_22 => intro V hSw; clear hSw; go_simp; try with_reducible rfl
              try simp only [Act.put, List.setIfInBounds_toArray, List.set_cons_zero, List.set_cons_succ]
              refine wpAnyH_done (by kernel_rfl) ?_ _
              exact ⟨rfl, .slice A0 (opF op).length C0, .slice A1 f.size C1, .slice A2 (numsF numT lo).length C2, gw, Ab, v', hP, hSe, rfl⟩
            exact AllReadyH.nil
          refine' AllReadyH.cons (by simp only [List.getElem?_toArray, List.getElem?_cons_succ, List.getElem?_cons_zero]; rfl) (fun K hK => ?_) ?_
          · skip
            go_simp
            refine (rnums_any _ _ lo _ ((HA.out.low.below (HW1.out.trans (hS2.mono HW1.out.size))).more (Nat.le_trans HW1.out.size hS2.size)) HOK.out.2.2.2.1.2 (by have := HOK.out.2.2.2.1.1; omega) HLq2.out).mono ?_
            rintro e V4 ⟨x2, rfl, ho, hb⟩
            have hE2 : Elt V4 W1.heap.size V4.heap.size x2 (numsF numT lo) := Elt.ofX (OwnX.of ho) hS2.size
            have hS4 : Below W1.heap.size W1 V4 := hS2.trans (hb.mono hS2.size)
            replace hE1 := hE1.below hb (Nat.le_refl _)
            clear ho hb
            go_simp
            refine hK.out _ _ hS4 (fun hT => ?_)
            clear hK hT
            try simp only [Act.put, List.setIfInBounds_toArray, List.set_cons_zero, List.set_cons_succ]
            refine wpAnyH_ready (rs := [6]) (by kernel_rfl) (by simp) ?_
            refine' AllReadyH.cons (by simp only [List.getElem?_toArray, List.getElem?_cons_succ, List.getElem?_cons_zero]; rfl) (fun K hK => ?_) ?_
            · skip
              have hcv := Lib.run_convert_string_bytes (P := Tryd.prog) V4 9 43 5 (str (opF op)) (u := .string) Tryd.underlying9 Tryd.underlying43 Tryd.underlying5
              have hox := ownX_bytes V4 W1.heap.size 5 (str (opF op)) hS4.size HOS.out
              have hbb := below_bytes V4 5 (str (opF op))
              generalize Lib.bytesWorld V4 5 (str (opF op)) = V5 at *
              generalize hxv : Value.slice (some ⟨V4.heap.size, 0, none⟩) (str (opF op)).size (grownCap V4 (str (opF op)).size 0 5) = x0 at *
              clear hxv
              go_simp
              replace hE1 := hE1.below hbb (Nat.le_refl _)
              replace hE2 := hE2.below hbb (Nat.le_refl _)
              have hE0 : Elt V5 W1.heap.size V5.heap.size x0 (opF op) := Elt.ofX hox (Nat.le_refl _)
              have hS5 : Below W1.heap.size W1 V5 := hS4.trans (hbb.mono hS4.size)
              refine hK.out _ _ hS5 (fun hT => ?_)
              clear hK hcv hox hT
              try simp only [Act.put, List.setIfInBounds_toArray, List.set_cons_zero, List.set_cons_succ]
              clear hbb
              obtain ⟨A0, C0, hx⟩ := hE0.slice
              replace hx : x0 = .slice A0 (opF op).length C0 := hx
              subst hx
              obtain ⟨A1, C1, hx⟩ := hE1.slice
              replace hx : x1 = .slice A1 f.size C1 := hx
              subst hx
              obtain ⟨A2, C2, hx⟩ := hE2.slice
              replace hx : x2 = .slice A2 (numsF numT lo).length C2 := hx
              subst hx
              refine wpAnyH_ready (rs := [13]) (by kernel_rfl) (by simp) ?_
              refine' AllReadyH.cons (by simp only [List.getElem?_toArray, List.getElem?_cons_succ, List.getElem?_cons_zero]; rfl) (fun K hK => ?_) AllReadyH.nil
              have hRn := reads_new V5 43 [.slice A0 (opF op).length C0, .slice A1 f.size C1, .slice A2 (numsF numT lo).length C2] 3 rfl
              go_simp
              replace hE1 := hE1.below ((Below.refl _ V5).alloc (Nat.le_refl _) (.cells #[.slice A0 (opF op).length C0, .slice A1 f.size C1, .slice A2 (numsF numT lo).length C2] 43)) (Nat.le_refl _)
              replace hE2 := hE2.below ((Below.refl _ V5).alloc (Nat.le_refl _) (.cells #[.slice A0 (opF op).length C0, .slice A1 f.size C1, .slice A2 (numsF numT lo).length C2] 43)) (Nat.le_refl _)
              replace hE0 := hE0.below ((Below.refl _ V5).alloc (Nat.le_refl _) (.cells #[.slice A0 (opF op).length C0, .slice A1 f.size C1, .slice A2 (numsF numT lo).length C2] 43)) (Nat.le_refl _)
              have hS6 := Below.alloc hS5 hS5.size (.cells #[.slice A0 (opF op).length C0, .slice A1 f.size C1, .slice A2 (numsF numT lo).length C2] 43)
              generalize hAb : (some ⟨V5.heap.size, 0, none⟩ : Option Addr) = Ab at *
              clear hAb
              generalize V5.alloc (.cells #[.slice A0 (opF op).length C0, .slice A1 f.size C1, .slice A2 (numsF numT lo).length C2] 43) = V6 at *
              refine hK.out _ _ hS6 (fun hT => ?_)
              clear hK
              try simp only [Act.put, List.setIfInBounds_toArray, List.set_cons_zero, List.set_cons_succ]
              refine wpAnyH_ready (rs := [14]) (by kernel_rfl) (by simp) ?_
              refine' AllReadyH.cons (by simp only [List.getElem?_toArray, List.getElem?_cons_succ, List.getElem?_cons_zero]; rfl) (fun K hK => ?_) AllReadyH.nil
              refine step_append_any _ rfl (.tmp 72) (.tmp 85) 74 rfl W1.heap.size 43 j0 (.slice none 0 0) 1 24 Tryd.underlying74 hj1 hj2 hj3 hj4 rfl (by decide) (.slice none 0 0) 0 [] rfl (World.ownsRow_nil _ _ _ _) _ Ab 3 3 [.slice A0 (opF op).length C0, .slice A1 f.size C1, .slice A2 (numsF numT lo).length C2] rfl hRn (by intro y hy; simp only [List.mem_cons, List.not_mem_nil, or_false] at hy; rcases hy with rfl | rfl | rfl; exact hE0.one; exact hE1.one; exact hE2.one) (by decide) (by decide) hS6.size ?_
              intro v' w' ho hg _
              have hP : Parts W1.heap.size w' v' [opF op, f.data.toList, numsF numT lo] := parts_more (ps := []) (ps' := [opF op, f.data.toList, numsF numT lo]) (World.ownsRow_nil _ _ _ _) rfl (parts_one (xs := [.slice A0 (opF op).length C0, .slice A1 f.size C1]) (ps := [opF op, f.data.toList]) (parts_one (xs := [.slice A0 (opF op).length C0]) (ps := [opF op]) (parts_one (xs := []) (ps := []) (fun i x p h => by simp at h) rfl hE0) rfl hE1) rfl hE2) ho hg
              have hSe : Below W1.heap.size W1 w' := hS6.grown hg hS6.size (fun r e => by cases e)
              refine hK.out _ _ hSe (fun hT => ?_)
              clear hK
              try simp only [Act.put, List.setIfInBounds_toArray, List.set_cons_zero, List.set_cons_succ]
              refine' wpAnyH_take (i := 15) (v := _) (by simp only [List.getElem?_toArray, List.getElem?_cons_succ, List.getElem?_cons_zero]; rfl) (by kernel_rfl) (by kernel_rfl) (by kernel_rfl) (by rintro _ _ _ ⟨h, _⟩; cases h) (Or.inl ⟨by rfl, ?hm15_23⟩) hSe ?rm15_23
              case hm15_23 => intro V hSw; clear hSw; go_simp; try with_reducible rfl
              try simp only [Act.put, List.setIfInBounds_toArray, List.set_cons_zero, List.set_cons_succ]
              refine wpAnyH_done (by kernel_rfl) ?_ _
              exact ⟨rfl, .slice A0 (opF op).length C0, .slice A1 f.size C1, .slice A2 (numsF numT lo).length C2, gw, Ab, v', hP, hSe, rfl⟩
            exact AllReadyH.nil
          exact AllReadyH.nil
        refine' AllReadyH.cons (by simp only [List.getElem?_toArray, List.getElem?_cons_succ, List.getElem?_cons_zero]; rfl) (fun K hK => ?_) ?_
        · skip
          go_simp
          refine (rnums_any _ _ lo _ ((HA.out.low.below (HW1.out.trans (hS2.mono HW1.out.size))).more (Nat.le_trans HW1.out.size hS2.size)) HOK.out.2.2.2.1.2 (by have := HOK.out.2.2.2.1.1; omega) HLq2.out).mono ?_
          rintro e V3 ⟨x2, rfl, ho, hb⟩
          have hE2 : Elt V3 W1.heap.size V3.heap.size x2 (numsF numT lo) := Elt.ofX (OwnX.of ho) hS2.size
          have hS3 : Below W1.heap.size W1 V3 := hS2.trans (hb.mono hS2.size)
          replace hE1 := hE1.below hb (Nat.le_refl _)
          replace hcw := (hb.cell (p := ⟨gw, op.toNat, none⟩) hgw).trans hcw
          replace hgw : gw < V3.heap.size := Nat.lt_of_lt_of_le hgw hb.size
          clear ho hb
          go_simp
          refine hK.out _ _ hS3 (fun hT => ?_)
          clear hK hT
          try simp only [Act.put, List.setIfInBounds_toArray, List.set_cons_zero, List.set_cons_succ]
          refine wpAnyH_ready (rs := [5]) (by kernel_rfl) (by simp) ?_
          refine' AllReadyH.cons (by simp only [List.getElem?_toArray, List.getElem?_cons_succ, List.getElem?_cons_zero]; rfl) (fun K hK => ?_) ?_
          · skip
            go_simp
            refine hK.out _ _ hS3 (fun hT => ?_)
            clear hK hT
            try simp only [Act.put, List.setIfInBounds_toArray, List.set_cons_zero, List.set_cons_succ]
            refine wpAnyH_ready (rs := [6]) (by kernel_rfl) (by simp) ?_
            refine' AllReadyH.cons (by simp only [List.getElem?_toArray, List.getElem?_cons_succ, List.getElem?_cons_zero]; rfl) (fun K hK => ?_) ?_
            · skip
              have hcv := Lib.run_convert_string_bytes (P := Tryd.prog) V3 9 43 5 (str (opF op)) (u := .string) Tryd.underlying9 Tryd.underlying43 Tryd.underlying5
              have hox := ownX_bytes V3 W1.heap.size 5 (str (opF op)) hS3.size HOS.out
              have hbb := below_bytes V3 5 (str (opF op))
              generalize Lib.bytesWorld V3 5 (str (opF op)) = V5 at *
              generalize hxv : Value.slice (some ⟨V3.heap.size, 0, none⟩) (str (opF op)).size (grownCap V3 (str (opF op)).size 0 5) = x0 at *
              clear hxv
              go_simp
              replace hE1 := hE1.below hbb (Nat.le_refl _)
              replace hE2 := hE2.below hbb (Nat.le_refl _)
              have hE0 : Elt V5 W1.heap.size V5.heap.size x0 (opF op) := Elt.ofX hox (Nat.le_refl _)
              have hS5 : Below W1.heap.size W1 V5 := hS3.trans (hbb.mono hS3.size)
              refine hK.out _ _ hS5 (fun hT => ?_)
              clear hK hcv hox hT
              try simp only [Act.put, List.setIfInBounds_toArray, List.set_cons_zero, List.set_cons_succ]
              clear hbb
              obtain ⟨A0, C0, hx⟩ := hE0.slice
              replace hx : x0 = .slice A0 (opF op).length C0 := hx
              subst hx
              obtain ⟨A1, C1, hx⟩ := hE1.slice
              replace hx : x1 = .slice A1 f.size C1 := hx
              subst hx
              obtain ⟨A2, C2, hx⟩ := hE2.slice
              replace hx : x2 = .slice A2 (numsF numT lo).length C2 := hx
              subst hx
              refine wpAnyH_ready (rs := [13]) (by kernel_rfl) (by simp) ?_
              refine' AllReadyH.cons (by simp only [List.getElem?_toArray, List.getElem?_cons_succ, List.getElem?_cons_zero]; rfl) (fun K hK => ?_) AllReadyH.nil
              have hRn := reads_new V5 43 [.slice A0 (opF op).length C0, .slice A1 f.size C1, .slice A2 (numsF numT lo).length C2] 3 rfl
              go_simp
              replace hE1 := hE1.below ((Below.refl _ V5).alloc (Nat.le_refl _) (.cells #[.slice A0 (opF op).length C0, .slice A1 f.size C1, .slice A2 (numsF numT lo).length C2] 43)) (Nat.le_refl _)
              replace hE2 := hE2.below ((Below.refl _ V5).alloc (Nat.le_refl _) (.cells #[.slice A0 (opF op).length C0, .slice A1 f.size C1, .slice A2 (numsF numT lo).length C2] 43)) (Nat.le_refl _)
              replace hE0 := hE0.below ((Below.refl _ V5).alloc (Nat.le_refl _) (.cells #[.slice A0 (opF op).length C0, .slice A1 f.size C1, .slice A2 (numsF numT lo).length C2] 43)) (Nat.le_refl _)
              have hS6 := Below.alloc hS5 hS5.size (.cells #[.slice A0 (opF op).length C0, .slice A1 f.size C1, .slice A2 (numsF numT lo).length C2] 43)
              generalize hAb : (some ⟨V5.heap.size, 0, none⟩ : Option Addr) = Ab at *
              clear hAb
              generalize V5.alloc (.cells #[.slice A0 (opF op).length C0, .slice A1 f.size C1, .slice A2 (numsF numT lo).length C2] 43) = V6 at *
              refine hK.out _ _ hS6 (fun hT => ?_)
              clear hK
              try simp only [Act.put, List.setIfInBounds_toArray, List.set_cons_zero, List.set_cons_succ]
              refine wpAnyH_ready (rs := [14]) (by kernel_rfl) (by simp) ?_
              refine' AllReadyH.cons (by simp only [List.getElem?_toArray, List.getElem?_cons_succ, List.getElem?_cons_zero]; rfl) (fun K hK => ?_) AllReadyH.nil
              refine step_append_any _ rfl (.tmp 72) (.tmp 85) 74 rfl W1.heap.size 43 j0 (.slice none 0 0) 1 24 Tryd.underlying74 hj1 hj2 hj3 hj4 rfl (by decide) (.slice none 0 0) 0 [] rfl (World.ownsRow_nil _ _ _ _) _ Ab 3 3 [.slice A0 (opF op).length C0, .slice A1 f.size C1, .slice A2 (numsF numT lo).length C2] rfl hRn (by intro y hy; simp only [List.mem_cons, List.not_mem_nil, or_false] at hy; rcases hy with rfl | rfl | rfl; exact hE0.one; exact hE1.one; exact hE2.one) (by decide) (by decide) hS6.size ?_
              intro v' w' ho hg _
              have hP : Parts W1.heap.size w' v' [opF op, f.data.toList, numsF numT lo] := parts_more (ps := []) (ps' := [opF op, f.data.toList, numsF numT lo]) (World.ownsRow_nil _ _ _ _) rfl (parts_one (xs := [.slice A0 (opF op).length C0, .slice A1 f.size C1]) (ps := [opF op, f.data.toList]) (parts_one (xs := [.slice A0 (opF op).length C0]) (ps := [opF op]) (parts_one (xs := []) (ps := []) (fun i x p h => by simp at h) rfl hE0) rfl hE1) rfl hE2) ho hg
              have hSe : Below W1.heap.size W1 w' := hS6.grown hg hS6.size (fun r e => by cases e)
              refine hK.out _ _ hSe (fun hT => ?_)
              clear hK
              try simp only [Act.put, List.setIfInBounds_toArray, List.set_cons_zero, List.set_cons_succ]
              refine' wpAnyH_take (i := 15) (v := _) (by simp only [List.getElem?_toArray, List.getElem?_cons_succ, List.getElem?_cons_zero]; rfl) (by kernel_rfl) (by kernel_rfl) (by kernel_rfl) (by rintro _ _ _ ⟨h, _⟩; cases h) (Or.inl ⟨by rfl, ?hm15_24⟩) hSe ?rm15_24
              case hm15_24 => intro V hSw; clear hSw; go_simp; try with_reducible rfl
              try simp only [Act.put, List.setIfInBounds_toArray, List.set_cons_zero, List.set_cons_succ]
              refine wpAnyH_done (by kernel_rfl) ?_ _
              exact ⟨rfl, .slice A0 (opF op).length C0, .slice A1 f.size C1, .slice A2 (numsF numT lo).length C2, gw, Ab, v', hP, hSe, rfl⟩
            exact AllReadyH.nil
          exact AllReadyH.nil
        exact AllReadyH.nil
      exact AllReadyH.nil
    exact AllReadyH.nil
  rintro ex a' W2 ⟨rfl, x0, x1, x2, gw, Ab, v4, hP, hb2, rfl⟩
  have HP2 := Lib.hid hP; have HB2 := Lib.hid hb2
  clear hP hb2
  obtain ⟨_, _, hke, hckA, hmkA, helK⟩ := at_kids HA.out.kids
  injection hke with hk1 _ hk3
  subst hk1 hk3
  have HKS := Lib.hid helK
  clear helK hckA
  have hks : ks.length * 152 ≤ 140737488351232 := HOK.out.2.2.2.2.2.2
  have H0 : Hid (Parts W1.heap.size W2 v4 ([opF op, f.data.toList, numsF numT lo] ++ (writeL numT ks).take 0) ∧ Below W1.heap.size W1 W2) := Lib.hid ⟨by simpa using HP2.out, HB2.out⟩
  clear HP2 HB2
  go_wp2_with fail
  go_loopw [4, 5] (fun v i wr => ∃ k : Nat, k ≤ ks.length ∧ i = .int .i64 k ∧ Hid (Parts W1.heap.size wr v ([opF op, f.data.toList, numsF numT lo] ++ (writeL numT ks).take k) ∧ Below W1.heap.size W1 wr)) (fun _ i _ => ks.length - (intOf i).toNat)
  case atStart => exact ⟨0, by omega, rfl, H0⟩
  case round =>
    skip
    clear H0
    obtain ⟨k, hk, rfl, HP⟩ := hrel
    have HQr := Lib.hid (HQ1.out.below HP.out.2 HQ1.out.lt)
    have HWr := Lib.hid (HW1.out.trans (HP.out.2.mono HW1.out.size))
    have hzr := HP.out.2.size
    have q9 : wr.cell? ⟨w.heap.size, 9, none⟩ = some (.slice Kd ks.length ck) := HQr.out.cell 9
    by_cases hlt : k < ks.length
    · have hlt2 : (k : Int) < (ks.length : Int) := by omega
      obtain ⟨ad, us, hKe, hba, au, lu, cu⟩ := HKS.out k hlt
      subst hKe
      replace cu := cu.keep (w' := wr) (fun p hp => HWr.out.cell (by rw [hp, block_of_add]; exact hba))
      have HD := Lib.hid (fun (W : World) (hW : Below w.heap.size w W) => HA.out.down ks[k] (List.getElem_mem _) us W (atL_ltw au hW))
      have hocc := HA.out.occ ks[k] (List.getElem_mem _)
      have HX := Lib.hid (kids_takeR hlt)
      have HLK : Hid ((markF (QryP.oc ks[k]) ++ writeF numT ks[k]).length + 400 ≤ maxW) := Lib.hid (by have := kid_part (pc := [opF op, f.data.toList, numsF numT lo]) hlt; have := HLEN.out; omega)
      have HPL : Hid (([opF op, f.data.toList, numsF numT lo] ++ (writeL numT ks).take k).length ≤ ks.length + 3) := Lib.hid (by rw [List.length_append, List.length_take, writeL_len]; simp only [List.length_cons, List.length_nil]; omega)
      have q0 : wr.cell? ⟨w.heap.size, 0, none⟩ = some (.int .i64 10) := HQr.out.cell 0
      generalize hq : ks[k] = q at *
      have HNX : Hid (∀ (W : World) (v : Value), Parts W1.heap.size W v (([opF op, f.data.toList, numsF numT lo] ++ (writeL numT ks).take k) ++ [markF (QryP.oc q) ++ writeF numT q]) → Parts W1.heap.size W v ([opF op, f.data.toList, numsF numT lo] ++ (writeL numT ks).take (k + 1))) := Lib.hid (fun W v h => by rw [HX.out, ← List.append_assoc]; exact h)
      clear HX
      generalize [opF op, f.data.toList, numsF numT lo] ++ (writeL numT ks).take k = PS at *
      obtain ⟨ao, ca, hao⟩ := HP.out.1.slice
      subst hao
      generalize hTX : writeF numT q = TX at *
      clear hTX
      obtain ⟨kd', oc', f', t', u', lo', hi', b', op', ks'⟩ := q
      obtain ⟨vl, vh, vk, rfl, hvl, hvh, hvk⟩ := at_cells au
      obtain ⟨B1, d1, rfl, _⟩ := at_ints hvl
      obtain ⟨B2, d2, rfl, _⟩ := at_ints hvh
      obtain ⟨B3, d3, rfl⟩ := at_sl hvk
      obtain ⟨a0, a1, a2, a3, a4, a5, a6, a7, a8, a9⟩ := ten cu
      have HCU := Lib.hid cu
      clear hq au hvl hvh hvk cu lu
      replace hocc : ((10 : Int) = 8 → 1 ≤ oc' ∧ oc' ≤ 4) ∧ ((10 : Int) ≠ 8 → oc' = 0) := hocc
      change Hid ((markF oc' ++ TX).length + 400 ≤ maxW) at HLK
      change Hid (∀ (W : World) (v : Value), Parts W1.heap.size W v (PS ++ [markF oc' ++ TX]) → Parts W1.heap.size W v ([opF op, f.data.toList, numsF numT lo] ++ (writeL numT ks).take (k + 1))) at HNX
      obtain ⟨hi1, hi2, hi3, hi4⟩ := HI.out
      obtain ⟨hj1, hj2, hj3, hj4⟩ := HJ.out
      obtain rfl : oc' = 0 := hocc.2 (by decide)
      clear hocc
      go_wp2_with fail
      refine (HD.out _ HWr.out).mono ?_
      rintro e w2 ⟨x, rfl, ho, hb⟩
      obtain ⟨A6, C6, hx⟩ := ho.slice
      subst hx
      have hrd := ho.reads
      have hB2 : Below wr.heap.size wr w2 := hb
      have h6 : OwnX w2 wr.heap.size 5 1 (.slice none 0 0) 0 (Lib.byteCells ([] : List UInt8)) := ⟨by simp [Lib.byteCells], .inl ⟨rfl, rfl⟩⟩
      clear ho hb a0 a1 a2 a3 a4 a5 a6 a7 a8 a9 q9 q0 
      have hlk : 0 + TX.length + 400 ≤ maxW := by have := HLK.out; first | (simpa [markF] using this) | (simp [markF] at this; omega)
      have hz2 := hB2.size
      go_wp2_with (at_builtin; refine wpList_appendX _ rfl (.tmp 107) (.tmp 113) 43 rfl wr.heap.size 5 i0 (.int .u8 0) 1 1 Tryd.underlying43 hi1 hi2 hi3 hi4 rfl (by decide) _ _ _ rfl h6 _ A6 TX.length C6 _ rfl hrd cells_one (by unfold maxLen; unfold maxW at hlk; omega) (by unfold maxW at hlk; omega) hz2 ?_)
      intro v7 w7 ho7 hg7 hv7
      have h7 : OwnX w7 wr.heap.size 5 1 v7 (([] : List UInt8) ++ TX).length (Lib.byteCells (([] : List UInt8) ++ TX)) := by
        have e : Lib.byteCells (([] : List UInt8) ++ TX) = Lib.byteCells ([] : List UInt8) ++ Lib.byteCells TX := by simp [Lib.byteCells]
        first | (rw [e, List.length_append]; exact ho7) | exact ho7
      have hB7 : Below wr.heap.size wr w7 := hB2.grown hg7 hz2 (fun r e => (h6.lt r e).1)
      have hE7 : Elt w7 W1.heap.size w7.heap.size v7 (([] : List UInt8) ++ TX) := Elt.ofX h7 hzr
      obtain ⟨A7, C7, hx⟩ := hE7.slice
      subst hx
      have hPz := (HP.out.1.below hB7).below ((Below.refl _ w7).alloc (Nat.le_refl _) (.cells #[.slice A7 (([] : List UInt8) ++ TX).length C7] 43))
      have hE8 := hE7.below ((Below.refl _ w7).alloc (Nat.le_refl _) (.cells #[.slice A7 (([] : List UInt8) ++ TX).length C7] 43)) (Nat.le_refl _)
      obtain ⟨xs, hox, hxl, hxe⟩ := hPz
      have hRn := reads_new w7 43 [.slice A7 (([] : List UInt8) ++ TX).length C7] 1 rfl
      have hB8 : Below W1.heap.size W1 (w7.alloc (.cells #[.slice A7 (([] : List UInt8) ++ TX).length C7] 43)) := (HP.out.2.trans (hB7.mono hzr)).alloc (Nat.le_trans hzr hB7.size) _
      have hpl := HPL.out
      clear ho7 hg7 hv7 h6 hrd hlk hE7 h7 hB2
      go_wp2_with (at_builtin; refine wpList_append_any _ rfl (.tmp 115) (.tmp 117) 74 rfl W1.heap.size 43 j0 (.slice none 0 0) 1 24 Tryd.underlying74 hj1 hj2 hj3 hj4 rfl (by decide) _ _ _ rfl hox _ _ 1 1 [.slice A7 (([] : List UInt8) ++ TX).length C7] rfl hRn (by intro y hy; simp only [List.mem_cons, List.not_mem_nil, or_false] at hy; subst hy; rfl) (by unfold maxLen; omega) (by omega) hB8.size ?_)
      intro v8 w8 ho8 hg8 _
      have HN : Hid (Parts W1.heap.size w8 v8 ([opF op, f.data.toList, numsF numT lo] ++ (writeL numT ks).take (k + 1)) ∧ Below W1.heap.size W1 w8) := Lib.hid ⟨HNX.out _ _ (parts_more (ps' := [([] : List UInt8) ++ TX]) hox rfl (parts_one hxe hxl hE8) ho8 hg8), hB8.grown hg8 hB8.size (fun r e => (hox.lt r e).1)⟩
      clear ho8 hg8 hox hxe hxl hE8 hRn hB8 hi1 hi2 hi3 hi4 hj1 hj2 hj3 hj4 hB7
      go_wp2_with fail
      go_roundw
      case rel => exact ⟨k + 1, by omega, by go_num, HN⟩
      case measure => simp [intOf]; omega
    · obtain rfl : k = ks.length := by omega
      obtain ⟨wo, hwo⟩ : ∃ wo : World, wo = wr := ⟨_, rfl⟩
      subst hwo
      have hall : (writeL numT ks).take ks.length = writeL numT ks := List.take_of_length_le (by rw [writeL_len]; exact Nat.le_refl _)
      rw [hall] at HP
      generalize hPS : [opF op, f.data.toList, numsF numT lo] ++ writeL numT ks = PS at *
      obtain ⟨ao, ca, hao⟩ := HP.out.1.slice
      subst hao
      have HPL : Hid (PS.length ≤ ks.length + 3) := Lib.hid (by rw [← hPS, List.length_append, writeL_len]; simp only [List.length_cons, List.length_nil]; omega)
      have HPS := Lib.hid hPS
      clear hall hPS HKS
      obtain ⟨hi1, hi2, hi3, hi4⟩ := HI.out
      have HJ0 : Hid (Jn W1.heap.size wo w (wordF 10) (.slice ab (wordF 10).length cb) wo) := Lib.hid ⟨HB.out.below HP.out.2 (Nat.le_refl _), fun g e => .inl (HBl.out g e), HWr.out, fun g _ _ => rfl, Nat.le_refl _, HWr.out.size⟩
      have HJ1 := Lib.hid (HJ0.out.alloc (.cells #[.int .u8 40] 5))
      have hpl := HPL.out
      have hlen0 := HLEN.out
      unfold maxW at hlen0
      rw [List.length_append, show ([40] : List UInt8).length = 1 from rfl] at hlen0
      go_wp2_with (at_builtin; refine wpList_appendX _ rfl (.tmp 119) (.tmp 120) 43 rfl w.heap.size 5 i0 (.int .u8 0) 1 1 Tryd.underlying43 hi1 hi2 hi3 hi4 rfl (by decide) _ _ _ rfl HJ1.out.own _ _ 1 1 [.int .u8 40] rfl (reads_new wo 5 [.int .u8 40] 1 rfl) (by intro y hy; simp only [List.mem_cons, List.not_mem_nil, or_false] at hy; subst hy; rfl) (by unfold maxLen; omega) (by omega) HJ1.out.base ?_)
      intro vb w3 ho3 hg3 hv3
      have HJ2 : Hid (Jn W1.heap.size wo w (wordF 10 ++ [40] ++ joinF [44, 32] (PS.take 0)) vb w3) := Lib.hid (by rw [List.take_zero, joinF, List.append_nil]; exact HJ1.out.app (p := [40]) ho3 hg3 (hv3.imp (fun h => h) (fun h => by rw [h]; simp)))
      clear ho3 hg3 hv3 HJ0 HJ1 q9 hi1 hi2 hi3 hi4
      have hpm : PS.length ≤ 9223372036854775807 := by omega
      go_wp2_with fail
      go_loopw [3, 7] (fun v i wz => ∃ j : Nat, j ≤ PS.length ∧ i = .int .i64 j ∧ Hid (Jn W1.heap.size wo w (wordF 10 ++ [40] ++ joinF [44, 32] (PS.take j)) v wz)) (fun _ i _ => PS.length - (intOf i).toNat)
      case atStart => exact ⟨0, by omega, rfl, HJ2⟩
      case round =>
        clear HJ2
        obtain ⟨j, hj, rfl, HN⟩ := hrel
        obtain ⟨ab3, cb3, hab3⟩ := HN.out.own.slice
        subst hab3
        obtain ⟨hi1, hi2, hi3, hi4⟩ := HI.out
        by_cases hjl : j < PS.length
        · have hjl2 : (j : Int) < (PS.length : Int) := by omega
          obtain ⟨g4, x4, B4, m4, hA4, _, hc4, hr4⟩ := parts_at HP.out.1 HN.out hjl
          subst hA4
          have HJT := Lib.hid (join_take hjl)
          have hle := join_le PS (j + 1)
          generalize hpj : PS[j] = pj at *
          have HPJ := Lib.hid hpj
          clear hpj
          by_cases h0 : j = 0
          · have d0 : decide (0 < j) = false := decide_eq_false (by omega)
            have HE : Hid (wordF 10 ++ [40] ++ joinF [44, 32] (PS.take (j + 1)) = (wordF 10 ++ [40] ++ joinF [44, 32] (PS.take j)) ++ pj) := Lib.hid (by rw [HJT.out, if_pos h0, h0]; simp [joinF])
            have hlx : (wordF 10 ++ [40] ++ joinF [44, 32] (PS.take j)).length + pj.length + 100 ≤ 140737488355328 := by
              have h2 := congrArg List.length HE.out
              rw [List.length_append, List.length_append, List.length_append (bs := pj), show ([40] : List UInt8).length = 1 from rfl] at h2
              omega
            clear HJT h0 hle
            generalize wordF 10 ++ [40] ++ joinF [44, 32] (PS.take j) = LJ at *
            go_wp2_with (at_builtin; refine wpList_appendX _ rfl (.tmp 133) (.tmp 137) 43 rfl w.heap.size 5 i0 (.int .u8 0) 1 1 Tryd.underlying43 hi1 hi2 hi3 hi4 rfl (by decide) _ _ _ rfl HN.out.own _ x4 pj.length m4 _ rfl hr4 cells_one (by unfold maxLen; omega) (by omega) HN.out.base ?_)
            intro v5 w5 ho5 hg5 hv5
            have HN5 : Hid (Jn W1.heap.size wo w (wordF 10 ++ [40] ++ joinF [44, 32] (PS.take (j + 1))) v5 w5) := Lib.hid (by rw [HE.out]; exact HN.out.app ho5 hg5 hv5)
            clear ho5 hg5 hv5 hc4 hr4 hi1 hi2 hi3 hi4
            go_wp2_with fail
            go_roundw
            case rel => exact ⟨j + 1, by omega, by go_num, HN5⟩
            case measure => simp [intOf]; omega
          · have d0 : decide (0 < j) = true := decide_eq_true (by omega)
            have HE : Hid (wordF 10 ++ [40] ++ joinF [44, 32] (PS.take (j + 1)) = ((wordF 10 ++ [40] ++ joinF [44, 32] (PS.take j)) ++ [44, 32]) ++ pj) := Lib.hid (by rw [HJT.out, if_neg h0]; simp)
            have hlx : (wordF 10 ++ [40] ++ joinF [44, 32] (PS.take j)).length + 2 + pj.length + 100 ≤ 140737488355328 := by
              have h2 := congrArg List.length HE.out
              rw [List.length_append, List.length_append, List.length_append (bs := pj), List.length_append (bs := [44, 32]), show ([40] : List UInt8).length = 1 from rfl, show ([44, 32] : List UInt8).length = 2 from rfl] at h2
              omega
            clear HJT h0 hle
            generalize wordF 10 ++ [40] ++ joinF [44, 32] (PS.take j) = LJ at *
            have HNa := Lib.hid (HN.out.alloc (.cells #[.int .u8 44, .int .u8 32] 5))
            clear hc4 hr4
            go_wp2_with (at_builtin; refine wpList_appendX _ rfl (.tmp 130) (.tmp 131) 43 rfl w.heap.size 5 i0 (.int .u8 0) 1 1 Tryd.underlying43 hi1 hi2 hi3 hi4 rfl (by decide) _ _ _ rfl HNa.out.own _ _ 2 2 [.int .u8 44, .int .u8 32] rfl (reads_new wr 5 [.int .u8 44, .int .u8 32] 2 rfl) (by intro y hy; simp only [List.mem_cons, List.not_mem_nil, or_false] at hy; rcases hy with rfl | rfl <;> rfl) (by unfold maxLen; omega) (by omega) HNa.out.base ?_)
            intro v4' w4 ho4 hg4 hv4
            have HN4 : Hid (Jn W1.heap.size wo w (LJ ++ [44, 32]) v4' w4) := Lib.hid (HNa.out.app (p := [44, 32]) ho4 hg4 (hv4.imp (fun h => h) (fun h => by rw [h]; simp)))
            clear ho4 hg4 hv4 HNa
            obtain ⟨ab4, cb4, hab4⟩ := HN4.out.own.slice
            subst hab4
            obtain ⟨g5, x5, B5, m5, hA5, _, hc5, hr5⟩ := parts_at HP.out.1 HN4.out hjl
            injection hA5 with hA5
            injection hA5 with hA5
            subst hA5
            rw [HPJ.out] at hc5 hr5
            have hlx2 : (LJ ++ [44, 32]).length + pj.length + 100 ≤ 140737488355328 := by rw [List.length_append, show ([44, 32] : List UInt8).length = 2 from rfl]; omega
            generalize LJ ++ [44, 32] = LJ2 at *
            go_wp2_with (at_builtin; refine wpList_appendX _ rfl (.tmp 133) (.tmp 137) 43 rfl w.heap.size 5 i0 (.int .u8 0) 1 1 Tryd.underlying43 hi1 hi2 hi3 hi4 rfl (by decide) _ _ _ rfl HN4.out.own _ x5 pj.length m5 _ rfl hr5 cells_one (by unfold maxLen; omega) (by omega) HN4.out.base ?_)
            intro v5 w5 ho5 hg5 hv5
            have HN5 : Hid (Jn W1.heap.size wo w (wordF 10 ++ [40] ++ joinF [44, 32] (PS.take (j + 1))) v5 w5) := Lib.hid (by rw [HE.out]; exact HN4.out.app ho5 hg5 hv5)
            clear ho5 hg5 hv5 hc5 hr5 hi1 hi2 hi3 hi4
            go_wp2_with fail
            go_roundw
            case rel => exact ⟨j + 1, by omega, by go_num, HN5⟩
            case measure => simp [intOf]; omega
        · obtain rfl : j = PS.length := by omega
          have hle : (wordF 10 ++ [40] ++ joinF [44, 32] (PS.take PS.length)).length + 100 ≤ 140737488355328 := by
            rw [List.take_length, List.length_append, List.length_append, show ([40] : List UInt8).length = 1 from rfl]
            omega
          have HE : Hid (writeF numT (.mk 10 oc f t u lo hi bo op ks) = (wordF 10 ++ [40] ++ joinF [44, 32] (PS.take PS.length)) ++ [41]) := Lib.hid (by rw [HWF.out, List.take_length]; simp)
          have HNa := Lib.hid (HN.out.alloc (.cells #[.int .u8 41] 5))
          generalize wordF 10 ++ [40] ++ joinF [44, 32] (PS.take PS.length) = LJ at *
          go_wp2_with (at_builtin; refine wpList_appendX _ rfl (.tmp 139) (.tmp 140) 43 rfl w.heap.size 5 i0 (.int .u8 0) 1 1 Tryd.underlying43 hi1 hi2 hi3 hi4 rfl (by decide) _ _ _ rfl HNa.out.own _ _ 1 1 [.int .u8 41] rfl (reads_new wr 5 [.int .u8 41] 1 rfl) (by intro y hy; simp only [List.mem_cons, List.not_mem_nil, or_false] at hy; subst hy; rfl) (by unfold maxLen; omega) (by omega) HNa.out.base ?_)
          intro v5 w5 ho5 hg5 hv5
          have HN5 : Hid (Jn W1.heap.size wo w (LJ ++ [41]) v5 w5) := Lib.hid (HNa.out.app (p := [41]) ho5 hg5 (hv5.imp (fun h => h) (fun h => by rw [h]; simp)))
          clear ho5 hg5 hv5 hi1 hi2 hi3 hi4 HNa
          go_wp2_with fail
          go_ret
          exact ⟨_, rfl, by rw [HE.out]; exact HN5.out.own, HN5.out.below⟩
end
end Go.Proofs.YtinmiekbhoemjaaDoor.Qry
