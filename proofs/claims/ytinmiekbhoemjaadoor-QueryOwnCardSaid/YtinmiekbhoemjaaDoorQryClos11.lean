/- Contract: the closure of query.write that writes a kid. Written by gen_clos11.py. -/
import Derived.Test.YtinmiekbhoemjaaDoorPack41
import Derived.Test.YtinmiekbhoemjaaDoorQryOwnK
set_option linter.unusedVariables false
namespace Go.Proofs.YtinmiekbhoemjaaDoor.Qry
open Go.RowKit Words Tree QryP Kit

section
variable {B b T K : Nat} {kd oc : Int} {f t u : ByteArray} {bo op : Int} {L Hh Kk : Option Addr} {nl cl nh ch nk ck : Nat} {w : World} {l x : List UInt8}
set_option maxRecDepth 100000 in
set_option maxHeartbeats 4000000 in
theorem kid_0 (hT : Blk w T 42 #[.pointer (some ⟨b, 0, none⟩)]) (hK : Blk w K 25 #[.int .i64 kd, .int .i64 0, .string f, .string t, .string u, .slice L nl cl, .slice Hh nh ch, .int .i64 bo, .int .i64 op, .slice Kk nk ck]) (hTb : T ≠ b) (hKb : K ≠ b) (h : Buf B b l w) (hl : l.length + 1 ≤ maxW)
    (hI : ∀ W, Wr B (fun g => g = b) w W → Buf B b (l) W → Calls Tryd.prog 26 #[.pointer (some ⟨b, 0, none⟩), .agg #[.int .i64 kd, .int .i64 0, .string f, .string t, .string u, .slice L nl cl, .slice Hh nh ch, .int .i64 bo, .int .i64 op, .slice Kk nk ck]] W (PutU B b (l) x W)) :
    Calls Tryd.prog 56 #[.pointer (some ⟨K, 0, none⟩), .pointer (some ⟨T, 0, none⟩)] w (PutU B b l (x) w) := by
  have HT := Lib.hid hT; have HK := Lib.hid hK; have HI := Lib.hid hI; have HH := Lib.hid h; have HL := Lib.hid hl
  obtain ⟨c0, c1, c2, c3, c4, c5, c6, c7, c8, c9⟩ := tenB hK
  have cT : w.cell? ⟨T, 0, none⟩ = some (.pointer (some ⟨b, 0, none⟩)) := hT.cell 0
  clear hT hK hI h hl
  go_enter Tryd.func56, Tryd.ntmps56
  go_wp2_with fail
  refine (HI.out w (Wr.refl _ _ _) HH.out).mono ?_
  rintro e w3 ⟨rfl, hb, hw⟩
  have HB3 := Lib.hid hb; have HW3 := Lib.hid (hw)
  clear hb hw c0 c1 c2 c3 c4 c5 c6 c7 c8 c9 cT
  go_wp2_with fail
  go_end0
  exact ⟨rfl, HB3.out, HW3.out⟩
set_option maxRecDepth 100000 in
set_option maxHeartbeats 4000000 in
theorem kid_1 (hT : Blk w T 42 #[.pointer (some ⟨b, 0, none⟩)]) (hK : Blk w K 25 #[.int .i64 kd, .int .i64 1, .string f, .string t, .string u, .slice L nl cl, .slice Hh nh ch, .int .i64 bo, .int .i64 op, .slice Kk nk ck]) (hTb : T ≠ b) (hKb : K ≠ b) (h : Buf B b l w) (hl : l.length + 1 ≤ maxW)
    (hI : ∀ W, Wr B (fun g => g = b) w W → Buf B b (l ++ [43]) W → Calls Tryd.prog 26 #[.pointer (some ⟨b, 0, none⟩), .agg #[.int .i64 kd, .int .i64 1, .string f, .string t, .string u, .slice L nl cl, .slice Hh nh ch, .int .i64 bo, .int .i64 op, .slice Kk nk ck]] W (PutU B b (l ++ [43]) x W)) :
    Calls Tryd.prog 56 #[.pointer (some ⟨K, 0, none⟩), .pointer (some ⟨T, 0, none⟩)] w (PutU B b l ([43] ++ x) w) := by
  have HT := Lib.hid hT; have HK := Lib.hid hK; have HI := Lib.hid hI; have HH := Lib.hid h; have HL := Lib.hid hl
  obtain ⟨c0, c1, c2, c3, c4, c5, c6, c7, c8, c9⟩ := tenB hK
  have cT : w.cell? ⟨T, 0, none⟩ = some (.pointer (some ⟨b, 0, none⟩)) := hT.cell 0
  clear hT hK hI h hl
  go_enter Tryd.func56, Tryd.ntmps56
  go_upto_region 1 with fail
  refine wp_region_held_drew (S := fun V => Wr B (fun g => g = b) w V) (by kernel_rfl) ((Wr.refl B _ w).drew) (fun hSd0 => ?_)
  refine' wpAnyH_take (i := 0) (v := _) (by simp only [List.getElem?_toArray, List.getElem?_cons_zero]; rfl) (by kernel_rfl) (by kernel_rfl) (by kernel_rfl) (by exact fun _ _ _ h => h) (Or.inl ⟨by rfl, ?hyd0⟩) hSd0 ?restd0
  case hyd0 => intro V hSw; have fq := (hSw.blk HT.out hTb (by decide)).cell 0; clear hSw; go_simp; try with_reducible rfl
  try simp only [Act.put, List.setIfInBounds_toArray, List.set_cons_zero, List.set_cons_succ]
  refine' wpAnyH_take (i := 1) (v := _) (by simp only [List.getElem?_toArray, List.getElem?_cons_succ, List.getElem?_cons_zero]; rfl) (by kernel_rfl) (by kernel_rfl) (by kernel_rfl) (by exact fun _ _ _ h => h) (Or.inl ⟨by rfl, ?hyd1⟩) hSd0 ?restd1
  case hyd1 => intro V hSw; clear hSw; go_simp; try with_reducible rfl
  try simp only [Act.put, List.setIfInBounds_toArray, List.set_cons_zero, List.set_cons_succ]
  refine' wpAnyH_take (i := 2) (v := _) (by simp only [List.getElem?_toArray, List.getElem?_cons_succ, List.getElem?_cons_zero]; rfl) (by kernel_rfl) (by kernel_rfl) (by kernel_rfl) (by exact fun _ _ _ h => h) (Or.inl ⟨by rfl, ?hyd2⟩) hSd0 ?restd2
  case hyd2 => intro V hSw; have fq := (hSw.blk HK.out hKb (by decide)).cell 1; clear hSw; go_simp; try with_reducible rfl
  try simp only [Act.put, List.setIfInBounds_toArray, List.set_cons_zero, List.set_cons_succ]
  refine' wpAnyH_take (i := 3) (v := _) (by simp only [List.getElem?_toArray, List.getElem?_cons_succ, List.getElem?_cons_zero]; rfl) (by kernel_rfl) (by kernel_rfl) (by kernel_rfl) (by exact fun _ _ _ h => h) (Or.inl ⟨by rfl, ?hyd3⟩) hSd0 ?restd3
  case hyd3 => intro V hSw; clear hSw; go_simp; try with_reducible rfl
  try simp only [Act.put, List.setIfInBounds_toArray, List.set_cons_zero, List.set_cons_succ]
  refine wpAnyH_ready (rs := [4]) (by kernel_rfl) (by simp) ?_
  refine' AllReadyH.cons (by simp only [List.getElem?_toArray, List.getElem?_cons_succ, List.getElem?_cons_zero]; rfl) (fun K hK => ?_) AllReadyH.nil
  go_simp
  refine (byte_put B b l 43 _ (HH.out.keep (Below.refl _ w).drew) HL.out).mono ?_
  rintro e w2 ⟨rfl, hb, hw⟩
  have HB2 := Lib.hid hb; have HW2 := Lib.hid (((Wr.refl B (fun g => g = b) w).drew).trans hw)
  clear hb hw
  go_simp
  refine hK.out _ _ HW2.out (fun hSd2 => ?_)
  clear hK
  try simp only [Act.put, List.setIfInBounds_toArray, List.set_cons_zero, List.set_cons_succ]
  refine wpAnyH_done (by kernel_rfl) ?_ _
  clear hSd0 hSd2 c0 c1 c2 c3 c4 c5 c6 c7 c8 c9 cT
  obtain ⟨c0, c1, c2, c3, c4, c5, c6, c7, c8, c9⟩ := tenB (HW2.out.blk HK.out hKb (by decide))
  have cT : w2.cell? ⟨T, 0, none⟩ = some (.pointer (some ⟨b, 0, none⟩)) := (HW2.out.blk HT.out hTb (by decide)).cell 0
  go_wp2_with fail
  refine (HI.out w2 HW2.out HB2.out).mono ?_
  rintro e w3 ⟨rfl, hb, hw⟩
  have HB3 := Lib.hid hb; have HW3 := Lib.hid (HW2.out.trans hw)
  clear hb hw c0 c1 c2 c3 c4 c5 c6 c7 c8 c9 cT
  go_wp2_with fail
  go_end0
  exact ⟨rfl, by simpa [List.append_assoc] using HB3.out, HW3.out⟩
set_option maxRecDepth 100000 in
set_option maxHeartbeats 4000000 in
theorem kid_2 (hT : Blk w T 42 #[.pointer (some ⟨b, 0, none⟩)]) (hK : Blk w K 25 #[.int .i64 kd, .int .i64 2, .string f, .string t, .string u, .slice L nl cl, .slice Hh nh ch, .int .i64 bo, .int .i64 op, .slice Kk nk ck]) (hTb : T ≠ b) (hKb : K ≠ b) (h : Buf B b l w) (hl : l.length + 1 ≤ maxW)
    (hI : ∀ W, Wr B (fun g => g = b) w W → Buf B b (l ++ [63]) W → Calls Tryd.prog 26 #[.pointer (some ⟨b, 0, none⟩), .agg #[.int .i64 kd, .int .i64 2, .string f, .string t, .string u, .slice L nl cl, .slice Hh nh ch, .int .i64 bo, .int .i64 op, .slice Kk nk ck]] W (PutU B b (l ++ [63]) x W)) :
    Calls Tryd.prog 56 #[.pointer (some ⟨K, 0, none⟩), .pointer (some ⟨T, 0, none⟩)] w (PutU B b l ([63] ++ x) w) := by
  have HT := Lib.hid hT; have HK := Lib.hid hK; have HI := Lib.hid hI; have HH := Lib.hid h; have HL := Lib.hid hl
  obtain ⟨c0, c1, c2, c3, c4, c5, c6, c7, c8, c9⟩ := tenB hK
  have cT : w.cell? ⟨T, 0, none⟩ = some (.pointer (some ⟨b, 0, none⟩)) := hT.cell 0
  clear hT hK hI h hl
  go_enter Tryd.func56, Tryd.ntmps56
  go_upto_region 1 with fail
  refine wp_region_held_drew (S := fun V => Wr B (fun g => g = b) w V) (by kernel_rfl) ((Wr.refl B _ w).drew) (fun hSd0 => ?_)
  refine' wpAnyH_take (i := 0) (v := _) (by simp only [List.getElem?_toArray, List.getElem?_cons_zero]; rfl) (by kernel_rfl) (by kernel_rfl) (by kernel_rfl) (by exact fun _ _ _ h => h) (Or.inl ⟨by rfl, ?hyd0⟩) hSd0 ?restd0
  case hyd0 => intro V hSw; have fq := (hSw.blk HT.out hTb (by decide)).cell 0; clear hSw; go_simp; try with_reducible rfl
  try simp only [Act.put, List.setIfInBounds_toArray, List.set_cons_zero, List.set_cons_succ]
  refine' wpAnyH_take (i := 1) (v := _) (by simp only [List.getElem?_toArray, List.getElem?_cons_succ, List.getElem?_cons_zero]; rfl) (by kernel_rfl) (by kernel_rfl) (by kernel_rfl) (by exact fun _ _ _ h => h) (Or.inl ⟨by rfl, ?hyd1⟩) hSd0 ?restd1
  case hyd1 => intro V hSw; clear hSw; go_simp; try with_reducible rfl
  try simp only [Act.put, List.setIfInBounds_toArray, List.set_cons_zero, List.set_cons_succ]
  refine' wpAnyH_take (i := 2) (v := _) (by simp only [List.getElem?_toArray, List.getElem?_cons_succ, List.getElem?_cons_zero]; rfl) (by kernel_rfl) (by kernel_rfl) (by kernel_rfl) (by exact fun _ _ _ h => h) (Or.inl ⟨by rfl, ?hyd2⟩) hSd0 ?restd2
  case hyd2 => intro V hSw; have fq := (hSw.blk HK.out hKb (by decide)).cell 1; clear hSw; go_simp; try with_reducible rfl
  try simp only [Act.put, List.setIfInBounds_toArray, List.set_cons_zero, List.set_cons_succ]
  refine' wpAnyH_take (i := 3) (v := _) (by simp only [List.getElem?_toArray, List.getElem?_cons_succ, List.getElem?_cons_zero]; rfl) (by kernel_rfl) (by kernel_rfl) (by kernel_rfl) (by exact fun _ _ _ h => h) (Or.inl ⟨by rfl, ?hyd3⟩) hSd0 ?restd3
  case hyd3 => intro V hSw; clear hSw; go_simp; try with_reducible rfl
  try simp only [Act.put, List.setIfInBounds_toArray, List.set_cons_zero, List.set_cons_succ]
  refine wpAnyH_ready (rs := [4]) (by kernel_rfl) (by simp) ?_
  refine' AllReadyH.cons (by simp only [List.getElem?_toArray, List.getElem?_cons_succ, List.getElem?_cons_zero]; rfl) (fun K hK => ?_) AllReadyH.nil
  go_simp
  refine (byte_put B b l 63 _ (HH.out.keep (Below.refl _ w).drew) HL.out).mono ?_
  rintro e w2 ⟨rfl, hb, hw⟩
  have HB2 := Lib.hid hb; have HW2 := Lib.hid (((Wr.refl B (fun g => g = b) w).drew).trans hw)
  clear hb hw
  go_simp
  refine hK.out _ _ HW2.out (fun hSd2 => ?_)
  clear hK
  try simp only [Act.put, List.setIfInBounds_toArray, List.set_cons_zero, List.set_cons_succ]
  refine wpAnyH_done (by kernel_rfl) ?_ _
  clear hSd0 hSd2 c0 c1 c2 c3 c4 c5 c6 c7 c8 c9 cT
  obtain ⟨c0, c1, c2, c3, c4, c5, c6, c7, c8, c9⟩ := tenB (HW2.out.blk HK.out hKb (by decide))
  have cT : w2.cell? ⟨T, 0, none⟩ = some (.pointer (some ⟨b, 0, none⟩)) := (HW2.out.blk HT.out hTb (by decide)).cell 0
  go_wp2_with fail
  refine (HI.out w2 HW2.out HB2.out).mono ?_
  rintro e w3 ⟨rfl, hb, hw⟩
  have HB3 := Lib.hid hb; have HW3 := Lib.hid (HW2.out.trans hw)
  clear hb hw c0 c1 c2 c3 c4 c5 c6 c7 c8 c9 cT
  go_wp2_with fail
  go_end0
  exact ⟨rfl, by simpa [List.append_assoc] using HB3.out, HW3.out⟩
set_option maxRecDepth 100000 in
set_option maxHeartbeats 4000000 in
theorem kid_3 (hT : Blk w T 42 #[.pointer (some ⟨b, 0, none⟩)]) (hK : Blk w K 25 #[.int .i64 kd, .int .i64 3, .string f, .string t, .string u, .slice L nl cl, .slice Hh nh ch, .int .i64 bo, .int .i64 op, .slice Kk nk ck]) (hTb : T ≠ b) (hKb : K ≠ b) (h : Buf B b l w) (hl : l.length + 1 ≤ maxW)
    (hI : ∀ W, Wr B (fun g => g = b) w W → Buf B b (l ++ [45]) W → Calls Tryd.prog 26 #[.pointer (some ⟨b, 0, none⟩), .agg #[.int .i64 kd, .int .i64 3, .string f, .string t, .string u, .slice L nl cl, .slice Hh nh ch, .int .i64 bo, .int .i64 op, .slice Kk nk ck]] W (PutU B b (l ++ [45]) x W)) :
    Calls Tryd.prog 56 #[.pointer (some ⟨K, 0, none⟩), .pointer (some ⟨T, 0, none⟩)] w (PutU B b l ([45] ++ x) w) := by
  have HT := Lib.hid hT; have HK := Lib.hid hK; have HI := Lib.hid hI; have HH := Lib.hid h; have HL := Lib.hid hl
  obtain ⟨c0, c1, c2, c3, c4, c5, c6, c7, c8, c9⟩ := tenB hK
  have cT : w.cell? ⟨T, 0, none⟩ = some (.pointer (some ⟨b, 0, none⟩)) := hT.cell 0
  clear hT hK hI h hl
  go_enter Tryd.func56, Tryd.ntmps56
  go_upto_region 1 with fail
  refine wp_region_held_drew (S := fun V => Wr B (fun g => g = b) w V) (by kernel_rfl) ((Wr.refl B _ w).drew) (fun hSd0 => ?_)
  refine' wpAnyH_take (i := 0) (v := _) (by simp only [List.getElem?_toArray, List.getElem?_cons_zero]; rfl) (by kernel_rfl) (by kernel_rfl) (by kernel_rfl) (by exact fun _ _ _ h => h) (Or.inl ⟨by rfl, ?hyd0⟩) hSd0 ?restd0
  case hyd0 => intro V hSw; have fq := (hSw.blk HT.out hTb (by decide)).cell 0; clear hSw; go_simp; try with_reducible rfl
  try simp only [Act.put, List.setIfInBounds_toArray, List.set_cons_zero, List.set_cons_succ]
  refine' wpAnyH_take (i := 1) (v := _) (by simp only [List.getElem?_toArray, List.getElem?_cons_succ, List.getElem?_cons_zero]; rfl) (by kernel_rfl) (by kernel_rfl) (by kernel_rfl) (by exact fun _ _ _ h => h) (Or.inl ⟨by rfl, ?hyd1⟩) hSd0 ?restd1
  case hyd1 => intro V hSw; clear hSw; go_simp; try with_reducible rfl
  try simp only [Act.put, List.setIfInBounds_toArray, List.set_cons_zero, List.set_cons_succ]
  refine' wpAnyH_take (i := 2) (v := _) (by simp only [List.getElem?_toArray, List.getElem?_cons_succ, List.getElem?_cons_zero]; rfl) (by kernel_rfl) (by kernel_rfl) (by kernel_rfl) (by exact fun _ _ _ h => h) (Or.inl ⟨by rfl, ?hyd2⟩) hSd0 ?restd2
  case hyd2 => intro V hSw; have fq := (hSw.blk HK.out hKb (by decide)).cell 1; clear hSw; go_simp; try with_reducible rfl
  try simp only [Act.put, List.setIfInBounds_toArray, List.set_cons_zero, List.set_cons_succ]
  refine' wpAnyH_take (i := 3) (v := _) (by simp only [List.getElem?_toArray, List.getElem?_cons_succ, List.getElem?_cons_zero]; rfl) (by kernel_rfl) (by kernel_rfl) (by kernel_rfl) (by exact fun _ _ _ h => h) (Or.inl ⟨by rfl, ?hyd3⟩) hSd0 ?restd3
  case hyd3 => intro V hSw; clear hSw; go_simp; try with_reducible rfl
  try simp only [Act.put, List.setIfInBounds_toArray, List.set_cons_zero, List.set_cons_succ]
  refine wpAnyH_ready (rs := [4]) (by kernel_rfl) (by simp) ?_
  refine' AllReadyH.cons (by simp only [List.getElem?_toArray, List.getElem?_cons_succ, List.getElem?_cons_zero]; rfl) (fun K hK => ?_) AllReadyH.nil
  go_simp
  refine (byte_put B b l 45 _ (HH.out.keep (Below.refl _ w).drew) HL.out).mono ?_
  rintro e w2 ⟨rfl, hb, hw⟩
  have HB2 := Lib.hid hb; have HW2 := Lib.hid (((Wr.refl B (fun g => g = b) w).drew).trans hw)
  clear hb hw
  go_simp
  refine hK.out _ _ HW2.out (fun hSd2 => ?_)
  clear hK
  try simp only [Act.put, List.setIfInBounds_toArray, List.set_cons_zero, List.set_cons_succ]
  refine wpAnyH_done (by kernel_rfl) ?_ _
  clear hSd0 hSd2 c0 c1 c2 c3 c4 c5 c6 c7 c8 c9 cT
  obtain ⟨c0, c1, c2, c3, c4, c5, c6, c7, c8, c9⟩ := tenB (HW2.out.blk HK.out hKb (by decide))
  have cT : w2.cell? ⟨T, 0, none⟩ = some (.pointer (some ⟨b, 0, none⟩)) := (HW2.out.blk HT.out hTb (by decide)).cell 0
  go_wp2_with fail
  refine (HI.out w2 HW2.out HB2.out).mono ?_
  rintro e w3 ⟨rfl, hb, hw⟩
  have HB3 := Lib.hid hb; have HW3 := Lib.hid (HW2.out.trans hw)
  clear hb hw c0 c1 c2 c3 c4 c5 c6 c7 c8 c9 cT
  go_wp2_with fail
  go_end0
  exact ⟨rfl, by simpa [List.append_assoc] using HB3.out, HW3.out⟩
set_option maxRecDepth 100000 in
set_option maxHeartbeats 4000000 in
theorem kid_4 (hT : Blk w T 42 #[.pointer (some ⟨b, 0, none⟩)]) (hK : Blk w K 25 #[.int .i64 kd, .int .i64 4, .string f, .string t, .string u, .slice L nl cl, .slice Hh nh ch, .int .i64 bo, .int .i64 op, .slice Kk nk ck]) (hTb : T ≠ b) (hKb : K ≠ b) (h : Buf B b l w) (hl : l.length + 1 ≤ maxW)
    (hI : ∀ W, Wr B (fun g => g = b) w W → Buf B b (l ++ [61]) W → Calls Tryd.prog 26 #[.pointer (some ⟨b, 0, none⟩), .agg #[.int .i64 kd, .int .i64 4, .string f, .string t, .string u, .slice L nl cl, .slice Hh nh ch, .int .i64 bo, .int .i64 op, .slice Kk nk ck]] W (PutU B b (l ++ [61]) x W)) :
    Calls Tryd.prog 56 #[.pointer (some ⟨K, 0, none⟩), .pointer (some ⟨T, 0, none⟩)] w (PutU B b l ([61] ++ x) w) := by
  have HT := Lib.hid hT; have HK := Lib.hid hK; have HI := Lib.hid hI; have HH := Lib.hid h; have HL := Lib.hid hl
  obtain ⟨c0, c1, c2, c3, c4, c5, c6, c7, c8, c9⟩ := tenB hK
  have cT : w.cell? ⟨T, 0, none⟩ = some (.pointer (some ⟨b, 0, none⟩)) := hT.cell 0
  clear hT hK hI h hl
  go_enter Tryd.func56, Tryd.ntmps56
  go_upto_region 1 with fail
  refine wp_region_held_drew (S := fun V => Wr B (fun g => g = b) w V) (by kernel_rfl) ((Wr.refl B _ w).drew) (fun hSd0 => ?_)
  refine' wpAnyH_take (i := 0) (v := _) (by simp only [List.getElem?_toArray, List.getElem?_cons_zero]; rfl) (by kernel_rfl) (by kernel_rfl) (by kernel_rfl) (by exact fun _ _ _ h => h) (Or.inl ⟨by rfl, ?hyd0⟩) hSd0 ?restd0
  case hyd0 => intro V hSw; have fq := (hSw.blk HT.out hTb (by decide)).cell 0; clear hSw; go_simp; try with_reducible rfl
  try simp only [Act.put, List.setIfInBounds_toArray, List.set_cons_zero, List.set_cons_succ]
  refine' wpAnyH_take (i := 1) (v := _) (by simp only [List.getElem?_toArray, List.getElem?_cons_succ, List.getElem?_cons_zero]; rfl) (by kernel_rfl) (by kernel_rfl) (by kernel_rfl) (by exact fun _ _ _ h => h) (Or.inl ⟨by rfl, ?hyd1⟩) hSd0 ?restd1
  case hyd1 => intro V hSw; clear hSw; go_simp; try with_reducible rfl
  try simp only [Act.put, List.setIfInBounds_toArray, List.set_cons_zero, List.set_cons_succ]
  refine' wpAnyH_take (i := 2) (v := _) (by simp only [List.getElem?_toArray, List.getElem?_cons_succ, List.getElem?_cons_zero]; rfl) (by kernel_rfl) (by kernel_rfl) (by kernel_rfl) (by exact fun _ _ _ h => h) (Or.inl ⟨by rfl, ?hyd2⟩) hSd0 ?restd2
  case hyd2 => intro V hSw; have fq := (hSw.blk HK.out hKb (by decide)).cell 1; clear hSw; go_simp; try with_reducible rfl
  try simp only [Act.put, List.setIfInBounds_toArray, List.set_cons_zero, List.set_cons_succ]
  refine' wpAnyH_take (i := 3) (v := _) (by simp only [List.getElem?_toArray, List.getElem?_cons_succ, List.getElem?_cons_zero]; rfl) (by kernel_rfl) (by kernel_rfl) (by kernel_rfl) (by exact fun _ _ _ h => h) (Or.inl ⟨by rfl, ?hyd3⟩) hSd0 ?restd3
  case hyd3 => intro V hSw; clear hSw; go_simp; try with_reducible rfl
  try simp only [Act.put, List.setIfInBounds_toArray, List.set_cons_zero, List.set_cons_succ]
  refine wpAnyH_ready (rs := [4]) (by kernel_rfl) (by simp) ?_
  refine' AllReadyH.cons (by simp only [List.getElem?_toArray, List.getElem?_cons_succ, List.getElem?_cons_zero]; rfl) (fun K hK => ?_) AllReadyH.nil
  go_simp
  refine (byte_put B b l 61 _ (HH.out.keep (Below.refl _ w).drew) HL.out).mono ?_
  rintro e w2 ⟨rfl, hb, hw⟩
  have HB2 := Lib.hid hb; have HW2 := Lib.hid (((Wr.refl B (fun g => g = b) w).drew).trans hw)
  clear hb hw
  go_simp
  refine hK.out _ _ HW2.out (fun hSd2 => ?_)
  clear hK
  try simp only [Act.put, List.setIfInBounds_toArray, List.set_cons_zero, List.set_cons_succ]
  refine wpAnyH_done (by kernel_rfl) ?_ _
  clear hSd0 hSd2 c0 c1 c2 c3 c4 c5 c6 c7 c8 c9 cT
  obtain ⟨c0, c1, c2, c3, c4, c5, c6, c7, c8, c9⟩ := tenB (HW2.out.blk HK.out hKb (by decide))
  have cT : w2.cell? ⟨T, 0, none⟩ = some (.pointer (some ⟨b, 0, none⟩)) := (HW2.out.blk HT.out hTb (by decide)).cell 0
  go_wp2_with fail
  refine (HI.out w2 HW2.out HB2.out).mono ?_
  rintro e w3 ⟨rfl, hb, hw⟩
  have HB3 := Lib.hid hb; have HW3 := Lib.hid (HW2.out.trans hw)
  clear hb hw c0 c1 c2 c3 c4 c5 c6 c7 c8 c9 cT
  go_wp2_with fail
  go_end0
  exact ⟨rfl, by simpa [List.append_assoc] using HB3.out, HW3.out⟩
end
end Go.Proofs.YtinmiekbhoemjaaDoor.Qry
