/- Contract: query.write, a kind at a time. Written by gen_write.py. -/
import Derived.Test.YtinmiekbhoemjaaDoorPack44
import Derived.Laws.EntriesVeiled
set_option linter.unusedVariables false
namespace Go.Proofs.YtinmiekbhoemjaaDoor.Qry
open Go.RowKit Words Tree QryP Kit

theorem pre_le {ps rest : List (List UInt8)} {x : List UInt8} {all : List (List UInt8)} (e : all = (ps ++ [x]) ++ rest) : (joinF [44, 32] (ps ++ [x])).length ≤ (joinF [44, 32] all).length := by rw [e]; exact joinF_pre _ _ _
theorem hm_of {a b c m : Nat} (h : a + b + 101 ≤ m) (k : c ≤ b) : a + c + 50 ≤ m := by omega
theorem end_of {L : List UInt8} {x y : List (List UInt8)} {m : Nat} (h : L.length + (joinF [44, 32] y).length + 101 ≤ m) (e : x = y) : (L ++ joinF [44, 32] x).length + 1 ≤ m := by subst e; simp only [List.length_append]; omega
theorem hl_of {a b c d x m : Nat} (h : a + b + 101 ≤ m) (k : c ≤ b) (e : d + x = a + c) : d + x ≤ m := by omega
theorem kids_take {ks : List QT} {k : Nat} (h : k < ks.length) : (writeL numT ks).take (k + 1) = (writeL numT ks).take k ++ [markF (QryP.oc ks[k]) ++ writeF numT ks[k]] := by
  rw [writeL_eq, ← List.map_take, ← List.map_take, List.take_succ_eq_append_getElem h, List.map_append]; rfl
theorem kids_all {ks : List QT} {k m : Nat} {l0 : List UInt8} {pc : List (List UInt8)} (h : k < ks.length) (hm : l0.length + (joinF [44, 32] (pc ++ writeL numT ks)).length + 101 ≤ m) : l0.length + (joinF [44, 32] (pc ++ (writeL numT ks).take k ++ [markF (QryP.oc ks[k]) ++ writeF numT ks[k]])).length + 101 ≤ m := by
  have := pre_le (all := pc ++ writeL numT ks) (ps := pc ++ (writeL numT ks).take k) (x := markF (QryP.oc ks[k]) ++ writeF numT ks[k]) (rest := (writeL numT ks).drop (k + 1)) (by
    rw [List.append_assoc pc, ← kids_take h, List.append_assoc, List.take_append_drop])
  omega
/-- What is asked of a part to be written. -/
structure Ask (B b : Nat) (l0 : List UInt8) (kd oc : Int) (f t u : ByteArray) (lo hi : List Int) (bo op : Int) (ks : List QT) (L Hh K : Option Addr) (ck : Nat) (w : World) : Prop where
  buf : Buf B b l0 w
  low : Reads w B 1 L lo.length (lo.map (Value.int .i64))
  high : Reads w B 1 Hh hi.length (hi.map (Value.int .i64))
  kids : T.At bare w (fun g => g < B) (.arr 10 ks.length (cellsL ks)) (.slice K ks.length ck)
  pow : ∀ W, Below B w W → Lib.TabIs Tryd.prog W "internal/strconv.uint64pow10" .u64 Lib.pow10Tab
  len : l0.length + (writeF numT (.mk kd oc f t u lo hi bo op ks)).length + 100 ≤ maxW
  ok : Ok (.mk kd oc f t u lo hi bo op ks)
  occ : ∀ k ∈ ks, QryP.oc k = 0 ∨ QryP.oc k = 1 ∨ QryP.oc k = 2 ∨ QryP.oc k = 3 ∨ QryP.oc k = 4
  down : ∀ k ∈ ks, ∀ (l : List UInt8) (vs : List Value) (W : World), Below B w W → T.AtL bare W (fun g => g < B) (cells k) vs → Buf B b l W → l.length + (writeF numT k).length + 100 ≤ maxW → Calls Tryd.prog 26 #[.pointer (some ⟨b, 0, none⟩), .agg vs.toArray] W (PutU B b l (writeF numT k) W)
section
variable {B b : Nat} {oc : Int} {f t u : ByteArray} {lo hi : List Int} {bo op : Int} {ks : List QT} {L Hh K : Option Addr} {cl ch ck : Nat} {w : World} {l0 : List UInt8}
set_option maxRecDepth 100000 in
set_option maxHeartbeats 16000000 in
theorem write_1 (h : Ask B b l0 1 oc ⟨#[]⟩ t u lo hi bo op ([] : List QT) L Hh K ck w) :
    Calls Tryd.prog 26 #[.pointer (some ⟨b, 0, none⟩), .agg #[.int .i64 1, .int .i64 oc, .string ⟨#[]⟩, .string t, .string u, .slice L lo.length cl, .slice Hh hi.length ch, .int .i64 bo, .int .i64 op, .slice K 0 ck]] w (PutU B b l0 (writeF numT (.mk 1 oc ⟨#[]⟩ t u lo hi bo op ([] : List QT))) w) := by
  have hmf : ∀ (fn : Fn) (first cap : Array Value) (w : World), (Instr.makeFunc fn first cap).run Tryd.prog w = .ok (.func fn first cap) w := fun _ _ _ _ => rfl
  have HA := Lib.hid h
  have hBw : B ≤ w.heap.size := by have := h.buf.ge; have := h.buf.size; omega
  have hbw : b < w.heap.size := h.buf.size
  have HOK : Hid ((⟨#[]⟩ : ByteArray).size ≤ 140737488351232 ∧ t.size ≤ 140737488351232 ∧ u.size ≤ 140737488351232 ∧ (lo.length * 8 ≤ 140737488351232 ∧ ∀ z ∈ lo, I64 z) ∧ (hi.length * 8 ≤ 140737488351232 ∧ ∀ z ∈ hi, I64 z) ∧ I64 bo) := Lib.hid (by
    cases h.ok with
    | mk _ _ a1 a2 a3 a4 a5 a6 _ _ _ => exact ⟨a1, a2, a3, a4, a5, a6⟩)
  have HWF : Hid (writeF numT (.mk 1 oc ⟨#[]⟩ t u lo hi bo op ([] : List QT)) = wordF 1) := Lib.hid (by rw [writeF, if_pos (by decide)])
  have HLW : Hid (l0.length + (wordF 1).length ≤ maxW) := Lib.hid (by
    have := h.len
    rw [HWF.out] at this
    try simp only [List.length_append] at this
    omega)
  clear h
  go_enter Tryd.func26, Tryd.ntmps26
  go_upto_region 1 with fail
  have HT0 : Hid (Blk ((w.alloc (.cells #[.pointer (some ⟨b, 0, none⟩)] 42)).alloc (.cells #[.int .i64 1, .int .i64 oc, .string ⟨#[]⟩, .string t, .string u, .slice L lo.length cl, .slice Hh hi.length ch, .int .i64 bo, .int .i64 op, .slice K 0 ck] 25)) w.heap.size 42 #[.pointer (some ⟨b, 0, none⟩)]) := Lib.hid ((Blk.new w _ _).alloc _)
  have HQ0 : Hid (Blk ((w.alloc (.cells #[.pointer (some ⟨b, 0, none⟩)] 42)).alloc (.cells #[.int .i64 1, .int .i64 oc, .string ⟨#[]⟩, .string t, .string u, .slice L lo.length cl, .slice Hh hi.length ch, .int .i64 bo, .int .i64 op, .slice K 0 ck] 25)) (w.heap.size + 1) 25 #[.int .i64 1, .int .i64 oc, .string ⟨#[]⟩, .string t, .string u, .slice L lo.length cl, .slice Hh hi.length ch, .int .i64 bo, .int .i64 op, .slice K 0 ck]) := Lib.hid (blk_two w _ _ _)
  have HW0 : Hid (Below w.heap.size w ((w.alloc (.cells #[.pointer (some ⟨b, 0, none⟩)] 42)).alloc (.cells #[.int .i64 1, .int .i64 oc, .string ⟨#[]⟩, .string t, .string u, .slice L lo.length cl, .slice Hh hi.length ch, .int .i64 bo, .int .i64 op, .slice K 0 ck] 25))) := Lib.hid (((Below.refl _ w).alloc (Nat.le_refl _) _).alloc (by simp) _)
  generalize ((w.alloc (.cells #[.pointer (some ⟨b, 0, none⟩)] 42)).alloc (.cells #[.int .i64 1, .int .i64 oc, .string ⟨#[]⟩, .string t, .string u, .slice L lo.length cl, .slice Hh hi.length ch, .int .i64 bo, .int .i64 op, .slice K 0 ck] 25)) = W0 at *
  have hz0 : w.heap.size + 1 < W0.heap.size := HQ0.out.lt
  have HB0 := Lib.hid (HA.out.buf.keep HW0.out)
  refine wp_region_held_drew (S := fun V => Wr B (fun g => g = b) W0 V) (by kernel_rfl) ((Wr.refl B _ W0).drew) (fun hSd0 => ?_)
  refine' wpAnyH_take (i := 0) (v := _) (by simp only [List.getElem?_toArray, List.getElem?_cons_zero]; rfl) (by kernel_rfl) (by kernel_rfl) (by kernel_rfl) (by exact fun _ _ _ h => h) (Or.inl ⟨by rfl, ?hyd0⟩) hSd0 ?restd0
  case hyd0 => intro V hSw; have fq := (hSw.blk HT0.out (by omega) (by decide)).cell 0; clear hSw; go_simp; try with_reducible rfl
  try simp only [Act.put, List.setIfInBounds_toArray, List.set_cons_zero, List.set_cons_succ]
  refine' wpAnyH_take (i := 1) (v := _) (by simp only [List.getElem?_toArray, List.getElem?_cons_succ, List.getElem?_cons_zero]; rfl) (by kernel_rfl) (by kernel_rfl) (by kernel_rfl) (by exact fun _ _ _ h => h) (Or.inl ⟨by rfl, ?hyd1⟩) hSd0 ?restd1
  case hyd1 => intro V hSw; clear hSw; go_simp; try with_reducible rfl
  try simp only [Act.put, List.setIfInBounds_toArray, List.set_cons_zero, List.set_cons_succ]
  refine' wpAnyH_take (i := 2) (v := _) (by simp only [List.getElem?_toArray, List.getElem?_cons_succ, List.getElem?_cons_zero]; rfl) (by kernel_rfl) (by kernel_rfl) (by kernel_rfl) (by exact fun _ _ _ h => h) (Or.inl ⟨by rfl, ?hyd2⟩) hSd0 ?restd2
  case hyd2 => intro V hSw; have fq := (hSw.blk HQ0.out (by omega) (by decide)).cell 0; clear hSw; go_simp; try with_reducible rfl
  try simp only [Act.put, List.setIfInBounds_toArray, List.set_cons_zero, List.set_cons_succ]
  refine wpAnyH_ready (rs := [3]) (by kernel_rfl) (by simp) ?_
  refine' AllReadyH.cons (by simp only [List.getElem?_toArray, List.getElem?_cons_succ, List.getElem?_cons_zero]; rfl) (fun KC hK => ?_) AllReadyH.nil
  go_simp
  refine (word_any 1 _ (by decide)).mono ?_
  rintro e V ⟨rfl, rfl⟩
  go_simp
  refine hK.out _ _ hSd0 (fun hSd1 => ?_)
  clear hK
  try simp only [Act.put, List.setIfInBounds_toArray, List.set_cons_zero, List.set_cons_succ]
  refine wpAnyH_ready (rs := [4]) (by kernel_rfl) (by simp) ?_
  refine' AllReadyH.cons (by simp only [List.getElem?_toArray, List.getElem?_cons_succ, List.getElem?_cons_zero]; rfl) (fun KC hK => ?_) AllReadyH.nil
  go_simp
  refine (string_put B b l0 (str (wordF 1)) _ (HB0.out.keep (Below.refl _ W0).drew) HLW.out).mono ?_
  rintro e W1 ⟨rfl, hb, hw⟩
  have hw1 := ((Wr.refl B (fun g => g = b) W0).drew).trans hw
  have HB1 := Lib.hid hb; have HW1 := Lib.hid hw1
  clear hb hw
  go_simp
  refine hK.out _ _ hw1 (fun hSd2 => ?_)
  clear hK hw1
  try simp only [Act.put, List.setIfInBounds_toArray, List.set_cons_zero, List.set_cons_succ]
  refine wpAnyH_done (by kernel_rfl) ?_ _
  clear hSd0 hSd1 hSd2
  have HT1 := Lib.hid (HW1.out.blk HT0.out (by omega) (by decide))
  have HQ1 := Lib.hid (HW1.out.blk HQ0.out (by omega) (by decide))
  have hz1 : w.heap.size + 1 < W1.heap.size := HQ1.out.lt
  have HWw1 := Lib.hid ((Wr.same (S := fun g => g = b) HW0.out hBw).trans HW1.out)
  obtain ⟨c0, c1, c2, c3, c4, c5, c6, c7, c8, c9⟩ := tenB HQ1.out
  have cT : W1.cell? ⟨w.heap.size, 0, none⟩ = some (.pointer (some ⟨b, 0, none⟩)) := HT1.out.cell 0
  go_wp2_with fail
  first
    | go_end0
    | (refine bodyPost_ret (results_none rfl _ _ _) rfl ?_)
  exact ⟨rfl, by rw [HWF.out]; exact HB1.out, HWw1.out⟩
set_option maxRecDepth 100000 in
set_option maxHeartbeats 16000000 in
theorem write_2 (h : Ask B b l0 2 oc ⟨#[]⟩ t u lo hi bo op ([] : List QT) L Hh K ck w) :
    Calls Tryd.prog 26 #[.pointer (some ⟨b, 0, none⟩), .agg #[.int .i64 2, .int .i64 oc, .string ⟨#[]⟩, .string t, .string u, .slice L lo.length cl, .slice Hh hi.length ch, .int .i64 bo, .int .i64 op, .slice K 0 ck]] w (PutU B b l0 (writeF numT (.mk 2 oc ⟨#[]⟩ t u lo hi bo op ([] : List QT))) w) := by
  have hmf : ∀ (fn : Fn) (first cap : Array Value) (w : World), (Instr.makeFunc fn first cap).run Tryd.prog w = .ok (.func fn first cap) w := fun _ _ _ _ => rfl
  have HA := Lib.hid h
  have hBw : B ≤ w.heap.size := by have := h.buf.ge; have := h.buf.size; omega
  have hbw : b < w.heap.size := h.buf.size
  have HOK : Hid ((⟨#[]⟩ : ByteArray).size ≤ 140737488351232 ∧ t.size ≤ 140737488351232 ∧ u.size ≤ 140737488351232 ∧ (lo.length * 8 ≤ 140737488351232 ∧ ∀ z ∈ lo, I64 z) ∧ (hi.length * 8 ≤ 140737488351232 ∧ ∀ z ∈ hi, I64 z) ∧ I64 bo) := Lib.hid (by
    cases h.ok with
    | mk _ _ a1 a2 a3 a4 a5 a6 _ _ _ => exact ⟨a1, a2, a3, a4, a5, a6⟩)
  have HWF : Hid (writeF numT (.mk 2 oc ⟨#[]⟩ t u lo hi bo op ([] : List QT)) = wordF 2) := Lib.hid (by rw [writeF, if_pos (by decide)])
  have HLW : Hid (l0.length + (wordF 2).length ≤ maxW) := Lib.hid (by
    have := h.len
    rw [HWF.out] at this
    try simp only [List.length_append] at this
    omega)
  clear h
  go_enter Tryd.func26, Tryd.ntmps26
  go_upto_region 1 with fail
  have HT0 : Hid (Blk ((w.alloc (.cells #[.pointer (some ⟨b, 0, none⟩)] 42)).alloc (.cells #[.int .i64 2, .int .i64 oc, .string ⟨#[]⟩, .string t, .string u, .slice L lo.length cl, .slice Hh hi.length ch, .int .i64 bo, .int .i64 op, .slice K 0 ck] 25)) w.heap.size 42 #[.pointer (some ⟨b, 0, none⟩)]) := Lib.hid ((Blk.new w _ _).alloc _)
  have HQ0 : Hid (Blk ((w.alloc (.cells #[.pointer (some ⟨b, 0, none⟩)] 42)).alloc (.cells #[.int .i64 2, .int .i64 oc, .string ⟨#[]⟩, .string t, .string u, .slice L lo.length cl, .slice Hh hi.length ch, .int .i64 bo, .int .i64 op, .slice K 0 ck] 25)) (w.heap.size + 1) 25 #[.int .i64 2, .int .i64 oc, .string ⟨#[]⟩, .string t, .string u, .slice L lo.length cl, .slice Hh hi.length ch, .int .i64 bo, .int .i64 op, .slice K 0 ck]) := Lib.hid (blk_two w _ _ _)
  have HW0 : Hid (Below w.heap.size w ((w.alloc (.cells #[.pointer (some ⟨b, 0, none⟩)] 42)).alloc (.cells #[.int .i64 2, .int .i64 oc, .string ⟨#[]⟩, .string t, .string u, .slice L lo.length cl, .slice Hh hi.length ch, .int .i64 bo, .int .i64 op, .slice K 0 ck] 25))) := Lib.hid (((Below.refl _ w).alloc (Nat.le_refl _) _).alloc (by simp) _)
  generalize ((w.alloc (.cells #[.pointer (some ⟨b, 0, none⟩)] 42)).alloc (.cells #[.int .i64 2, .int .i64 oc, .string ⟨#[]⟩, .string t, .string u, .slice L lo.length cl, .slice Hh hi.length ch, .int .i64 bo, .int .i64 op, .slice K 0 ck] 25)) = W0 at *
  have hz0 : w.heap.size + 1 < W0.heap.size := HQ0.out.lt
  have HB0 := Lib.hid (HA.out.buf.keep HW0.out)
  refine wp_region_held_drew (S := fun V => Wr B (fun g => g = b) W0 V) (by kernel_rfl) ((Wr.refl B _ W0).drew) (fun hSd0 => ?_)
  refine' wpAnyH_take (i := 0) (v := _) (by simp only [List.getElem?_toArray, List.getElem?_cons_zero]; rfl) (by kernel_rfl) (by kernel_rfl) (by kernel_rfl) (by exact fun _ _ _ h => h) (Or.inl ⟨by rfl, ?hyd0⟩) hSd0 ?restd0
  case hyd0 => intro V hSw; have fq := (hSw.blk HT0.out (by omega) (by decide)).cell 0; clear hSw; go_simp; try with_reducible rfl
  try simp only [Act.put, List.setIfInBounds_toArray, List.set_cons_zero, List.set_cons_succ]
  refine' wpAnyH_take (i := 1) (v := _) (by simp only [List.getElem?_toArray, List.getElem?_cons_succ, List.getElem?_cons_zero]; rfl) (by kernel_rfl) (by kernel_rfl) (by kernel_rfl) (by exact fun _ _ _ h => h) (Or.inl ⟨by rfl, ?hyd1⟩) hSd0 ?restd1
  case hyd1 => intro V hSw; clear hSw; go_simp; try with_reducible rfl
  try simp only [Act.put, List.setIfInBounds_toArray, List.set_cons_zero, List.set_cons_succ]
  refine' wpAnyH_take (i := 2) (v := _) (by simp only [List.getElem?_toArray, List.getElem?_cons_succ, List.getElem?_cons_zero]; rfl) (by kernel_rfl) (by kernel_rfl) (by kernel_rfl) (by exact fun _ _ _ h => h) (Or.inl ⟨by rfl, ?hyd2⟩) hSd0 ?restd2
  case hyd2 => intro V hSw; have fq := (hSw.blk HQ0.out (by omega) (by decide)).cell 0; clear hSw; go_simp; try with_reducible rfl
  try simp only [Act.put, List.setIfInBounds_toArray, List.set_cons_zero, List.set_cons_succ]
  refine wpAnyH_ready (rs := [3]) (by kernel_rfl) (by simp) ?_
  refine' AllReadyH.cons (by simp only [List.getElem?_toArray, List.getElem?_cons_succ, List.getElem?_cons_zero]; rfl) (fun KC hK => ?_) AllReadyH.nil
  go_simp
  refine (word_any 2 _ (by decide)).mono ?_
  rintro e V ⟨rfl, rfl⟩
  go_simp
  refine hK.out _ _ hSd0 (fun hSd1 => ?_)
  clear hK
  try simp only [Act.put, List.setIfInBounds_toArray, List.set_cons_zero, List.set_cons_succ]
  refine wpAnyH_ready (rs := [4]) (by kernel_rfl) (by simp) ?_
  refine' AllReadyH.cons (by simp only [List.getElem?_toArray, List.getElem?_cons_succ, List.getElem?_cons_zero]; rfl) (fun KC hK => ?_) AllReadyH.nil
  go_simp
  refine (string_put B b l0 (str (wordF 2)) _ (HB0.out.keep (Below.refl _ W0).drew) HLW.out).mono ?_
  rintro e W1 ⟨rfl, hb, hw⟩
  have hw1 := ((Wr.refl B (fun g => g = b) W0).drew).trans hw
  have HB1 := Lib.hid hb; have HW1 := Lib.hid hw1
  clear hb hw
  go_simp
  refine hK.out _ _ hw1 (fun hSd2 => ?_)
  clear hK hw1
  try simp only [Act.put, List.setIfInBounds_toArray, List.set_cons_zero, List.set_cons_succ]
  refine wpAnyH_done (by kernel_rfl) ?_ _
  clear hSd0 hSd1 hSd2
  have HT1 := Lib.hid (HW1.out.blk HT0.out (by omega) (by decide))
  have HQ1 := Lib.hid (HW1.out.blk HQ0.out (by omega) (by decide))
  have hz1 : w.heap.size + 1 < W1.heap.size := HQ1.out.lt
  have HWw1 := Lib.hid ((Wr.same (S := fun g => g = b) HW0.out hBw).trans HW1.out)
  obtain ⟨c0, c1, c2, c3, c4, c5, c6, c7, c8, c9⟩ := tenB HQ1.out
  have cT : W1.cell? ⟨w.heap.size, 0, none⟩ = some (.pointer (some ⟨b, 0, none⟩)) := HT1.out.cell 0
  go_wp2_with fail
  first
    | go_end0
    | (refine bodyPost_ret (results_none rfl _ _ _) rfl ?_)
  exact ⟨rfl, by rw [HWF.out]; exact HB1.out, HWw1.out⟩
set_option maxRecDepth 100000 in
set_option maxHeartbeats 16000000 in
theorem write_3 (h : Ask B b l0 3 oc f t u lo hi bo op ([] : List QT) L Hh K ck w) (hf : f.toList.isEmpty = false) :
    Calls Tryd.prog 26 #[.pointer (some ⟨b, 0, none⟩), .agg #[.int .i64 3, .int .i64 oc, .string f, .string t, .string u, .slice L lo.length cl, .slice Hh hi.length ch, .int .i64 bo, .int .i64 op, .slice K 0 ck]] w (PutU B b l0 (writeF numT (.mk 3 oc f t u lo hi bo op ([] : List QT))) w) := by
  have hmf : ∀ (fn : Fn) (first cap : Array Value) (w : World), (Instr.makeFunc fn first cap).run Tryd.prog w = .ok (.func fn first cap) w := fun _ _ _ _ => rfl
  have HA := Lib.hid h
  have hBw : B ≤ w.heap.size := by have := h.buf.ge; have := h.buf.size; omega
  have hbw : b < w.heap.size := h.buf.size
  have HOK : Hid ((f : ByteArray).size ≤ 140737488351232 ∧ t.size ≤ 140737488351232 ∧ u.size ≤ 140737488351232 ∧ (lo.length * 8 ≤ 140737488351232 ∧ ∀ z ∈ lo, I64 z) ∧ (hi.length * 8 ≤ 140737488351232 ∧ ∀ z ∈ hi, I64 z) ∧ I64 bo) := Lib.hid (by
    cases h.ok with
    | mk _ _ a1 a2 a3 a4 a5 a6 _ _ _ => exact ⟨a1, a2, a3, a4, a5, a6⟩)
  have hW : writeF numT (.mk 3 oc f t u lo hi bo op ([] : List QT)) = wordF 3 ++ 40 :: (joinF [44, 32] ([f.data.toList, quoteF t] ++ writeL numT ([] : List QT)) ++ [41]) := by
    rw [writeF, if_neg (by decide)]; rfl
  have HWF := Lib.hid hW
  have HM : Hid ((l0 ++ wordF 3 ++ [40]).length + (joinF [44, 32] ([f.data.toList, quoteF t] ++ writeL numT ([] : List QT))).length + 101 ≤ maxW) := Lib.hid (by
    have := h.len
    rw [hW] at this
    simp only [List.length_append, List.length_cons, List.length_nil] at *
    omega)
  clear hW
  have HLW : Hid (l0.length + (wordF 3).length ≤ maxW) := Lib.hid (by
    have := h.len
    rw [HWF.out] at this
    try simp only [List.length_append] at this
    omega)
  clear h
  go_enter Tryd.func26, Tryd.ntmps26
  go_upto_region 1 with fail
  have HT0 : Hid (Blk ((w.alloc (.cells #[.pointer (some ⟨b, 0, none⟩)] 42)).alloc (.cells #[.int .i64 3, .int .i64 oc, .string f, .string t, .string u, .slice L lo.length cl, .slice Hh hi.length ch, .int .i64 bo, .int .i64 op, .slice K 0 ck] 25)) w.heap.size 42 #[.pointer (some ⟨b, 0, none⟩)]) := Lib.hid ((Blk.new w _ _).alloc _)
  have HQ0 : Hid (Blk ((w.alloc (.cells #[.pointer (some ⟨b, 0, none⟩)] 42)).alloc (.cells #[.int .i64 3, .int .i64 oc, .string f, .string t, .string u, .slice L lo.length cl, .slice Hh hi.length ch, .int .i64 bo, .int .i64 op, .slice K 0 ck] 25)) (w.heap.size + 1) 25 #[.int .i64 3, .int .i64 oc, .string f, .string t, .string u, .slice L lo.length cl, .slice Hh hi.length ch, .int .i64 bo, .int .i64 op, .slice K 0 ck]) := Lib.hid (blk_two w _ _ _)
  have HW0 : Hid (Below w.heap.size w ((w.alloc (.cells #[.pointer (some ⟨b, 0, none⟩)] 42)).alloc (.cells #[.int .i64 3, .int .i64 oc, .string f, .string t, .string u, .slice L lo.length cl, .slice Hh hi.length ch, .int .i64 bo, .int .i64 op, .slice K 0 ck] 25))) := Lib.hid (((Below.refl _ w).alloc (Nat.le_refl _) _).alloc (by simp) _)
  generalize ((w.alloc (.cells #[.pointer (some ⟨b, 0, none⟩)] 42)).alloc (.cells #[.int .i64 3, .int .i64 oc, .string f, .string t, .string u, .slice L lo.length cl, .slice Hh hi.length ch, .int .i64 bo, .int .i64 op, .slice K 0 ck] 25)) = W0 at *
  have hz0 : w.heap.size + 1 < W0.heap.size := HQ0.out.lt
  have HB0 := Lib.hid (HA.out.buf.keep HW0.out)
  refine wp_region_held_drew (S := fun V => Wr B (fun g => g = b) W0 V) (by kernel_rfl) ((Wr.refl B _ W0).drew) (fun hSd0 => ?_)
  refine' wpAnyH_take (i := 0) (v := _) (by simp only [List.getElem?_toArray, List.getElem?_cons_zero]; rfl) (by kernel_rfl) (by kernel_rfl) (by kernel_rfl) (by exact fun _ _ _ h => h) (Or.inl ⟨by rfl, ?hyd0⟩) hSd0 ?restd0
  case hyd0 => intro V hSw; have fq := (hSw.blk HT0.out (by omega) (by decide)).cell 0; clear hSw; go_simp; try with_reducible rfl
  try simp only [Act.put, List.setIfInBounds_toArray, List.set_cons_zero, List.set_cons_succ]
  refine' wpAnyH_take (i := 1) (v := _) (by simp only [List.getElem?_toArray, List.getElem?_cons_succ, List.getElem?_cons_zero]; rfl) (by kernel_rfl) (by kernel_rfl) (by kernel_rfl) (by exact fun _ _ _ h => h) (Or.inl ⟨by rfl, ?hyd1⟩) hSd0 ?restd1
  case hyd1 => intro V hSw; clear hSw; go_simp; try with_reducible rfl
  try simp only [Act.put, List.setIfInBounds_toArray, List.set_cons_zero, List.set_cons_succ]
  refine' wpAnyH_take (i := 2) (v := _) (by simp only [List.getElem?_toArray, List.getElem?_cons_succ, List.getElem?_cons_zero]; rfl) (by kernel_rfl) (by kernel_rfl) (by kernel_rfl) (by exact fun _ _ _ h => h) (Or.inl ⟨by rfl, ?hyd2⟩) hSd0 ?restd2
  case hyd2 => intro V hSw; have fq := (hSw.blk HQ0.out (by omega) (by decide)).cell 0; clear hSw; go_simp; try with_reducible rfl
  try simp only [Act.put, List.setIfInBounds_toArray, List.set_cons_zero, List.set_cons_succ]
  refine wpAnyH_ready (rs := [3]) (by kernel_rfl) (by simp) ?_
  refine' AllReadyH.cons (by simp only [List.getElem?_toArray, List.getElem?_cons_succ, List.getElem?_cons_zero]; rfl) (fun KC hK => ?_) AllReadyH.nil
  go_simp
  refine (word_any 3 _ (by decide)).mono ?_
  rintro e V ⟨rfl, rfl⟩
  go_simp
  refine hK.out _ _ hSd0 (fun hSd1 => ?_)
  clear hK
  try simp only [Act.put, List.setIfInBounds_toArray, List.set_cons_zero, List.set_cons_succ]
  refine wpAnyH_ready (rs := [4]) (by kernel_rfl) (by simp) ?_
  refine' AllReadyH.cons (by simp only [List.getElem?_toArray, List.getElem?_cons_succ, List.getElem?_cons_zero]; rfl) (fun KC hK => ?_) AllReadyH.nil
  go_simp
  refine (string_put B b l0 (str (wordF 3)) _ (HB0.out.keep (Below.refl _ W0).drew) HLW.out).mono ?_
  rintro e W1 ⟨rfl, hb, hw⟩
  have hw1 := ((Wr.refl B (fun g => g = b) W0).drew).trans hw
  have HB1 := Lib.hid hb; have HW1 := Lib.hid hw1
  clear hb hw
  go_simp
  refine hK.out _ _ hw1 (fun hSd2 => ?_)
  clear hK hw1
  try simp only [Act.put, List.setIfInBounds_toArray, List.set_cons_zero, List.set_cons_succ]
  refine wpAnyH_done (by kernel_rfl) ?_ _
  clear hSd0 hSd1 hSd2
  have HT1 := Lib.hid (HW1.out.blk HT0.out (by omega) (by decide))
  have HQ1 := Lib.hid (HW1.out.blk HQ0.out (by omega) (by decide))
  have hz1 : w.heap.size + 1 < W1.heap.size := HQ1.out.lt
  have HWw1 := Lib.hid ((Wr.same (S := fun g => g = b) HW0.out hBw).trans HW1.out)
  obtain ⟨c0, c1, c2, c3, c4, c5, c6, c7, c8, c9⟩ := tenB HQ1.out
  have cT : W1.cell? ⟨w.heap.size, 0, none⟩ = some (.pointer (some ⟨b, 0, none⟩)) := HT1.out.cell 0
  go_upto_region 5 with fail
  have HT2 : Hid (Blk (W1.alloc (.cells #[.int .i64 0] 3)) w.heap.size 42 #[.pointer (some ⟨b, 0, none⟩)]) := Lib.hid (HT1.out.alloc _)
  have HQ2 := Lib.hid (HQ1.out.alloc (.cells #[.int .i64 0] 3))
  have HP2 : Hid (Blk (W1.alloc (.cells #[.int .i64 0] 3)) W1.heap.size 3 #[.int .i64 0]) := Lib.hid (Blk.new W1 _ _)
  have HWw2 := Lib.hid (HWw1.out.alloc (by omega) (.cells #[.int .i64 0] 3))
  have HB2 := Lib.hid (HB1.out.keep ((Below.refl _ W1).alloc (Nat.le_refl _) (.cells #[.int .i64 0] 3)))
  have HBY := Lib.hid (byte_put B b _ 40 _ HB2.out (by have := HM.out; show (l0 ++ wordF 3).length + 1 ≤ maxW; simp only [List.length_append, List.length_cons, List.length_nil] at *; omega))
  have hzP : w.heap.size + 1 < W1.heap.size := hz1
  generalize W1.alloc (.cells #[.int .i64 0] 3) = W2 at *
  generalize W1.heap.size = PP at *
  clear c0 c1 c2 c3 c4 c5 c6 c7 c8 c9 cT
  have cT : W2.cell? ⟨w.heap.size, 0, none⟩ = some (.pointer (some ⟨b, 0, none⟩)) := HT2.out.cell 0
  go_wp2_with fail
  refine HBY.out.mono ?_
  rintro e V0 ⟨rfl, hb, hw⟩
  have HV0 : Hid (WS B b w.heap.size (w.heap.size + 1) PP 3 oc f t u lo hi bo op 0 L Hh K cl ch ck (l0 ++ wordF 3 ++ [40]) w [] V0) := Lib.hid (by
    have hwv := HWw2.out.trans hw
    have hb' : Buf B b (l0 ++ wordF 3 ++ [40]) V0 := hb
    exact ⟨⟨hw.blk HT2.out (by omega) (by decide), hw.blk HQ2.out (by omega) (by decide), HA.out.low.below hwv.below, HA.out.high.below hwv.below, HA.out.pow _ hwv.below, fun V hV => HA.out.pow _ (hwv.below.trans hV), by omega, by omega⟩, by simpa [joinF] using hb', hw.blk HP2.out (by omega) (by decide), hwv, by omega, by omega, by omega, by omega, by omega⟩)
  clear hb hw cT HBY
  obtain ⟨c0, c1, c2, c3, c4, c5, c6, c7, c8, c9⟩ := tenB HV0.out.caps.qB
  have HPT := Lib.hid (ws_part (x := f.data.toList) HV0.out 48 #[.pointer (some ⟨w.heap.size, 0, none⟩), .pointer (some ⟨w.heap.size + 1, 0, none⟩)] (enters_of Tryd.func48 (by kernel_rfl) rfl) (hm_of HM.out (pre_le (all := [f.data.toList, quoteF t] ++ writeL numT ([] : List QT)) (ps := []) (x := f.data.toList) (rest := [quoteF t] ++ writeL numT ([] : List QT)) rfl)) (by simp) (fun W hC hW hb hl => clos4 hC hb (hl_of HM.out (pre_le (all := [f.data.toList, quoteF t] ++ writeL numT ([] : List QT)) (ps := []) (x := f.data.toList) (rest := [quoteF t] ++ writeL numT ([] : List QT)) rfl) hl)))
  go_wp2_with fail
  refine HPT.out.mono ?_
  rintro e V1 ⟨rfl, hv⟩
  have HV1 := Lib.hid hv
  clear hv HPT c0 c1 c2 c3 c4 c5 c6 c7 c8 c9 HV0
  obtain ⟨c0, c1, c2, c3, c4, c5, c6, c7, c8, c9⟩ := tenB HV1.out.caps.qB
  have HPT := Lib.hid (ws_part (x := quoteF t) HV1.out 52 #[.pointer (some ⟨w.heap.size, 0, none⟩), .pointer (some ⟨w.heap.size + 1, 0, none⟩)] (enters_of Tryd.func52 (by kernel_rfl) rfl) (hm_of HM.out (pre_le (all := [f.data.toList, quoteF t] ++ writeL numT ([] : List QT)) (ps := [f.data.toList]) (x := quoteF t) (rest := [] ++ writeL numT ([] : List QT)) rfl)) (by simp) (fun W hC hW hb hl => clos7 hC hb (hl_of HM.out (pre_le (all := [f.data.toList, quoteF t] ++ writeL numT ([] : List QT)) (ps := [f.data.toList]) (x := quoteF t) (rest := [] ++ writeL numT ([] : List QT)) rfl) hl) HOK.out.2.1))
  go_wp2_with fail
  refine HPT.out.mono ?_
  rintro e V2 ⟨rfl, hv⟩
  have HV2 := Lib.hid hv
  clear hv HPT c0 c1 c2 c3 c4 c5 c6 c7 c8 c9 HV1
  obtain ⟨c0, c1, c2, c3, c4, c5, c6, c7, c8, c9⟩ := tenB HV2.out.caps.qB
  go_wp2_with fail
  go_loopw [75] (fun i wr => i = .int .i64 0 ∧ wr = V2) (fun i _ => 0)
  case atStart => exact ⟨rfl, rfl⟩
  case round =>
    obtain ⟨rfl, rfl⟩ := hrel
    have HBZ := Lib.hid (byte_put B b _ 41 _ HV2.out.buf (end_of HM.out (by simp [writeL])))
    have cT := HV2.out.caps.tB.cell 0
    go_wp2_with fail
    refine HBZ.out.mono ?_
    rintro e W9 ⟨rfl, hb, hw⟩
    have HB9 := Lib.hid hb; have HW9 := Lib.hid (HV2.out.wr.trans hw)
    clear hb hw c0 c1 c2 c3 c4 c5 c6 c7 c8 c9 cT
    go_wp2_with fail
    go_end0
    exact ⟨rfl, by rw [HWF.out]; simpa [writeL, List.append_assoc] using HB9.out, HW9.out⟩
set_option maxRecDepth 100000 in
set_option maxHeartbeats 16000000 in
theorem write_4 (h : Ask B b l0 4 oc f t u lo hi bo op ([] : List QT) L Hh K ck w) (hf : f.toList.isEmpty = false) :
    Calls Tryd.prog 26 #[.pointer (some ⟨b, 0, none⟩), .agg #[.int .i64 4, .int .i64 oc, .string f, .string t, .string u, .slice L lo.length cl, .slice Hh hi.length ch, .int .i64 bo, .int .i64 op, .slice K 0 ck]] w (PutU B b l0 (writeF numT (.mk 4 oc f t u lo hi bo op ([] : List QT))) w) := by
  have hmf : ∀ (fn : Fn) (first cap : Array Value) (w : World), (Instr.makeFunc fn first cap).run Tryd.prog w = .ok (.func fn first cap) w := fun _ _ _ _ => rfl
  have HA := Lib.hid h
  have hBw : B ≤ w.heap.size := by have := h.buf.ge; have := h.buf.size; omega
  have hbw : b < w.heap.size := h.buf.size
  have HOK : Hid ((f : ByteArray).size ≤ 140737488351232 ∧ t.size ≤ 140737488351232 ∧ u.size ≤ 140737488351232 ∧ (lo.length * 8 ≤ 140737488351232 ∧ ∀ z ∈ lo, I64 z) ∧ (hi.length * 8 ≤ 140737488351232 ∧ ∀ z ∈ hi, I64 z) ∧ I64 bo) := Lib.hid (by
    cases h.ok with
    | mk _ _ a1 a2 a3 a4 a5 a6 _ _ _ => exact ⟨a1, a2, a3, a4, a5, a6⟩)
  have hW : writeF numT (.mk 4 oc f t u lo hi bo op ([] : List QT)) = wordF 4 ++ 40 :: (joinF [44, 32] ([f.data.toList, quoteF t] ++ writeL numT ([] : List QT)) ++ [41]) := by
    rw [writeF, if_neg (by decide)]; rfl
  have HWF := Lib.hid hW
  have HM : Hid ((l0 ++ wordF 4 ++ [40]).length + (joinF [44, 32] ([f.data.toList, quoteF t] ++ writeL numT ([] : List QT))).length + 101 ≤ maxW) := Lib.hid (by
    have := h.len
    rw [hW] at this
    simp only [List.length_append, List.length_cons, List.length_nil] at *
    omega)
  clear hW
  have HLW : Hid (l0.length + (wordF 4).length ≤ maxW) := Lib.hid (by
    have := h.len
    rw [HWF.out] at this
    try simp only [List.length_append] at this
    omega)
  clear h
  go_enter Tryd.func26, Tryd.ntmps26
  go_upto_region 1 with fail
  have HT0 : Hid (Blk ((w.alloc (.cells #[.pointer (some ⟨b, 0, none⟩)] 42)).alloc (.cells #[.int .i64 4, .int .i64 oc, .string f, .string t, .string u, .slice L lo.length cl, .slice Hh hi.length ch, .int .i64 bo, .int .i64 op, .slice K 0 ck] 25)) w.heap.size 42 #[.pointer (some ⟨b, 0, none⟩)]) := Lib.hid ((Blk.new w _ _).alloc _)
  have HQ0 : Hid (Blk ((w.alloc (.cells #[.pointer (some ⟨b, 0, none⟩)] 42)).alloc (.cells #[.int .i64 4, .int .i64 oc, .string f, .string t, .string u, .slice L lo.length cl, .slice Hh hi.length ch, .int .i64 bo, .int .i64 op, .slice K 0 ck] 25)) (w.heap.size + 1) 25 #[.int .i64 4, .int .i64 oc, .string f, .string t, .string u, .slice L lo.length cl, .slice Hh hi.length ch, .int .i64 bo, .int .i64 op, .slice K 0 ck]) := Lib.hid (blk_two w _ _ _)
  have HW0 : Hid (Below w.heap.size w ((w.alloc (.cells #[.pointer (some ⟨b, 0, none⟩)] 42)).alloc (.cells #[.int .i64 4, .int .i64 oc, .string f, .string t, .string u, .slice L lo.length cl, .slice Hh hi.length ch, .int .i64 bo, .int .i64 op, .slice K 0 ck] 25))) := Lib.hid (((Below.refl _ w).alloc (Nat.le_refl _) _).alloc (by simp) _)
  generalize ((w.alloc (.cells #[.pointer (some ⟨b, 0, none⟩)] 42)).alloc (.cells #[.int .i64 4, .int .i64 oc, .string f, .string t, .string u, .slice L lo.length cl, .slice Hh hi.length ch, .int .i64 bo, .int .i64 op, .slice K 0 ck] 25)) = W0 at *
  have hz0 : w.heap.size + 1 < W0.heap.size := HQ0.out.lt
  have HB0 := Lib.hid (HA.out.buf.keep HW0.out)
  refine wp_region_held_drew (S := fun V => Wr B (fun g => g = b) W0 V) (by kernel_rfl) ((Wr.refl B _ W0).drew) (fun hSd0 => ?_)
  refine' wpAnyH_take (i := 0) (v := _) (by simp only [List.getElem?_toArray, List.getElem?_cons_zero]; rfl) (by kernel_rfl) (by kernel_rfl) (by kernel_rfl) (by exact fun _ _ _ h => h) (Or.inl ⟨by rfl, ?hyd0⟩) hSd0 ?restd0
  case hyd0 => intro V hSw; have fq := (hSw.blk HT0.out (by omega) (by decide)).cell 0; clear hSw; go_simp; try with_reducible rfl
  try simp only [Act.put, List.setIfInBounds_toArray, List.set_cons_zero, List.set_cons_succ]
  refine' wpAnyH_take (i := 1) (v := _) (by simp only [List.getElem?_toArray, List.getElem?_cons_succ, List.getElem?_cons_zero]; rfl) (by kernel_rfl) (by kernel_rfl) (by kernel_rfl) (by exact fun _ _ _ h => h) (Or.inl ⟨by rfl, ?hyd1⟩) hSd0 ?restd1
  case hyd1 => intro V hSw; clear hSw; go_simp; try with_reducible rfl
  try simp only [Act.put, List.setIfInBounds_toArray, List.set_cons_zero, List.set_cons_succ]
  refine' wpAnyH_take (i := 2) (v := _) (by simp only [List.getElem?_toArray, List.getElem?_cons_succ, List.getElem?_cons_zero]; rfl) (by kernel_rfl) (by kernel_rfl) (by kernel_rfl) (by exact fun _ _ _ h => h) (Or.inl ⟨by rfl, ?hyd2⟩) hSd0 ?restd2
  case hyd2 => intro V hSw; have fq := (hSw.blk HQ0.out (by omega) (by decide)).cell 0; clear hSw; go_simp; try with_reducible rfl
  try simp only [Act.put, List.setIfInBounds_toArray, List.set_cons_zero, List.set_cons_succ]
  refine wpAnyH_ready (rs := [3]) (by kernel_rfl) (by simp) ?_
  refine' AllReadyH.cons (by simp only [List.getElem?_toArray, List.getElem?_cons_succ, List.getElem?_cons_zero]; rfl) (fun KC hK => ?_) AllReadyH.nil
  go_simp
  refine (word_any 4 _ (by decide)).mono ?_
  rintro e V ⟨rfl, rfl⟩
  go_simp
  refine hK.out _ _ hSd0 (fun hSd1 => ?_)
  clear hK
  try simp only [Act.put, List.setIfInBounds_toArray, List.set_cons_zero, List.set_cons_succ]
  refine wpAnyH_ready (rs := [4]) (by kernel_rfl) (by simp) ?_
  refine' AllReadyH.cons (by simp only [List.getElem?_toArray, List.getElem?_cons_succ, List.getElem?_cons_zero]; rfl) (fun KC hK => ?_) AllReadyH.nil
  go_simp
  refine (string_put B b l0 (str (wordF 4)) _ (HB0.out.keep (Below.refl _ W0).drew) HLW.out).mono ?_
  rintro e W1 ⟨rfl, hb, hw⟩
  have hw1 := ((Wr.refl B (fun g => g = b) W0).drew).trans hw
  have HB1 := Lib.hid hb; have HW1 := Lib.hid hw1
  clear hb hw
  go_simp
  refine hK.out _ _ hw1 (fun hSd2 => ?_)
  clear hK hw1
  try simp only [Act.put, List.setIfInBounds_toArray, List.set_cons_zero, List.set_cons_succ]
  refine wpAnyH_done (by kernel_rfl) ?_ _
  clear hSd0 hSd1 hSd2
  have HT1 := Lib.hid (HW1.out.blk HT0.out (by omega) (by decide))
  have HQ1 := Lib.hid (HW1.out.blk HQ0.out (by omega) (by decide))
  have hz1 : w.heap.size + 1 < W1.heap.size := HQ1.out.lt
  have HWw1 := Lib.hid ((Wr.same (S := fun g => g = b) HW0.out hBw).trans HW1.out)
  obtain ⟨c0, c1, c2, c3, c4, c5, c6, c7, c8, c9⟩ := tenB HQ1.out
  have cT : W1.cell? ⟨w.heap.size, 0, none⟩ = some (.pointer (some ⟨b, 0, none⟩)) := HT1.out.cell 0
  go_upto_region 5 with fail
  have HT2 : Hid (Blk (W1.alloc (.cells #[.int .i64 0] 3)) w.heap.size 42 #[.pointer (some ⟨b, 0, none⟩)]) := Lib.hid (HT1.out.alloc _)
  have HQ2 := Lib.hid (HQ1.out.alloc (.cells #[.int .i64 0] 3))
  have HP2 : Hid (Blk (W1.alloc (.cells #[.int .i64 0] 3)) W1.heap.size 3 #[.int .i64 0]) := Lib.hid (Blk.new W1 _ _)
  have HWw2 := Lib.hid (HWw1.out.alloc (by omega) (.cells #[.int .i64 0] 3))
  have HB2 := Lib.hid (HB1.out.keep ((Below.refl _ W1).alloc (Nat.le_refl _) (.cells #[.int .i64 0] 3)))
  have HBY := Lib.hid (byte_put B b _ 40 _ HB2.out (by have := HM.out; show (l0 ++ wordF 4).length + 1 ≤ maxW; simp only [List.length_append, List.length_cons, List.length_nil] at *; omega))
  have hzP : w.heap.size + 1 < W1.heap.size := hz1
  generalize W1.alloc (.cells #[.int .i64 0] 3) = W2 at *
  generalize W1.heap.size = PP at *
  clear c0 c1 c2 c3 c4 c5 c6 c7 c8 c9 cT
  have cT : W2.cell? ⟨w.heap.size, 0, none⟩ = some (.pointer (some ⟨b, 0, none⟩)) := HT2.out.cell 0
  go_wp2_with fail
  refine HBY.out.mono ?_
  rintro e V0 ⟨rfl, hb, hw⟩
  have HV0 : Hid (WS B b w.heap.size (w.heap.size + 1) PP 4 oc f t u lo hi bo op 0 L Hh K cl ch ck (l0 ++ wordF 4 ++ [40]) w [] V0) := Lib.hid (by
    have hwv := HWw2.out.trans hw
    have hb' : Buf B b (l0 ++ wordF 4 ++ [40]) V0 := hb
    exact ⟨⟨hw.blk HT2.out (by omega) (by decide), hw.blk HQ2.out (by omega) (by decide), HA.out.low.below hwv.below, HA.out.high.below hwv.below, HA.out.pow _ hwv.below, fun V hV => HA.out.pow _ (hwv.below.trans hV), by omega, by omega⟩, by simpa [joinF] using hb', hw.blk HP2.out (by omega) (by decide), hwv, by omega, by omega, by omega, by omega, by omega⟩)
  clear hb hw cT HBY
  obtain ⟨c0, c1, c2, c3, c4, c5, c6, c7, c8, c9⟩ := tenB HV0.out.caps.qB
  have HPT := Lib.hid (ws_part (x := f.data.toList) HV0.out 48 #[.pointer (some ⟨w.heap.size, 0, none⟩), .pointer (some ⟨w.heap.size + 1, 0, none⟩)] (enters_of Tryd.func48 (by kernel_rfl) rfl) (hm_of HM.out (pre_le (all := [f.data.toList, quoteF t] ++ writeL numT ([] : List QT)) (ps := []) (x := f.data.toList) (rest := [quoteF t] ++ writeL numT ([] : List QT)) rfl)) (by simp) (fun W hC hW hb hl => clos4 hC hb (hl_of HM.out (pre_le (all := [f.data.toList, quoteF t] ++ writeL numT ([] : List QT)) (ps := []) (x := f.data.toList) (rest := [quoteF t] ++ writeL numT ([] : List QT)) rfl) hl)))
  go_wp2_with fail
  refine HPT.out.mono ?_
  rintro e V1 ⟨rfl, hv⟩
  have HV1 := Lib.hid hv
  clear hv HPT c0 c1 c2 c3 c4 c5 c6 c7 c8 c9 HV0
  obtain ⟨c0, c1, c2, c3, c4, c5, c6, c7, c8, c9⟩ := tenB HV1.out.caps.qB
  have HPT := Lib.hid (ws_part (x := quoteF t) HV1.out 52 #[.pointer (some ⟨w.heap.size, 0, none⟩), .pointer (some ⟨w.heap.size + 1, 0, none⟩)] (enters_of Tryd.func52 (by kernel_rfl) rfl) (hm_of HM.out (pre_le (all := [f.data.toList, quoteF t] ++ writeL numT ([] : List QT)) (ps := [f.data.toList]) (x := quoteF t) (rest := [] ++ writeL numT ([] : List QT)) rfl)) (by simp) (fun W hC hW hb hl => clos7 hC hb (hl_of HM.out (pre_le (all := [f.data.toList, quoteF t] ++ writeL numT ([] : List QT)) (ps := [f.data.toList]) (x := quoteF t) (rest := [] ++ writeL numT ([] : List QT)) rfl) hl) HOK.out.2.1))
  go_wp2_with fail
  refine HPT.out.mono ?_
  rintro e V2 ⟨rfl, hv⟩
  have HV2 := Lib.hid hv
  clear hv HPT c0 c1 c2 c3 c4 c5 c6 c7 c8 c9 HV1
  obtain ⟨c0, c1, c2, c3, c4, c5, c6, c7, c8, c9⟩ := tenB HV2.out.caps.qB
  go_wp2_with fail
  go_loopw [75] (fun i wr => i = .int .i64 0 ∧ wr = V2) (fun i _ => 0)
  case atStart => exact ⟨rfl, rfl⟩
  case round =>
    obtain ⟨rfl, rfl⟩ := hrel
    have HBZ := Lib.hid (byte_put B b _ 41 _ HV2.out.buf (end_of HM.out (by simp [writeL])))
    have cT := HV2.out.caps.tB.cell 0
    go_wp2_with fail
    refine HBZ.out.mono ?_
    rintro e W9 ⟨rfl, hb, hw⟩
    have HB9 := Lib.hid hb; have HW9 := Lib.hid (HV2.out.wr.trans hw)
    clear hb hw c0 c1 c2 c3 c4 c5 c6 c7 c8 c9 cT
    go_wp2_with fail
    go_end0
    exact ⟨rfl, by rw [HWF.out]; simpa [writeL, List.append_assoc] using HB9.out, HW9.out⟩
set_option maxRecDepth 100000 in
set_option maxHeartbeats 16000000 in
theorem write_5 (h : Ask B b l0 5 oc f t u lo hi bo op ([] : List QT) L Hh K ck w) (hf : f.toList.isEmpty = false) :
    Calls Tryd.prog 26 #[.pointer (some ⟨b, 0, none⟩), .agg #[.int .i64 5, .int .i64 oc, .string f, .string t, .string u, .slice L lo.length cl, .slice Hh hi.length ch, .int .i64 bo, .int .i64 op, .slice K 0 ck]] w (PutU B b l0 (writeF numT (.mk 5 oc f t u lo hi bo op ([] : List QT))) w) := by
  have hmf : ∀ (fn : Fn) (first cap : Array Value) (w : World), (Instr.makeFunc fn first cap).run Tryd.prog w = .ok (.func fn first cap) w := fun _ _ _ _ => rfl
  have HA := Lib.hid h
  have hBw : B ≤ w.heap.size := by have := h.buf.ge; have := h.buf.size; omega
  have hbw : b < w.heap.size := h.buf.size
  have HOK : Hid ((f : ByteArray).size ≤ 140737488351232 ∧ t.size ≤ 140737488351232 ∧ u.size ≤ 140737488351232 ∧ (lo.length * 8 ≤ 140737488351232 ∧ ∀ z ∈ lo, I64 z) ∧ (hi.length * 8 ≤ 140737488351232 ∧ ∀ z ∈ hi, I64 z) ∧ I64 bo) := Lib.hid (by
    cases h.ok with
    | mk _ _ a1 a2 a3 a4 a5 a6 _ _ _ => exact ⟨a1, a2, a3, a4, a5, a6⟩)
  have hW : writeF numT (.mk 5 oc f t u lo hi bo op ([] : List QT)) = wordF 5 ++ 40 :: (joinF [44, 32] ([f.data.toList, quoteF t] ++ writeL numT ([] : List QT)) ++ [41]) := by
    rw [writeF, if_neg (by decide)]; rfl
  have HWF := Lib.hid hW
  have HM : Hid ((l0 ++ wordF 5 ++ [40]).length + (joinF [44, 32] ([f.data.toList, quoteF t] ++ writeL numT ([] : List QT))).length + 101 ≤ maxW) := Lib.hid (by
    have := h.len
    rw [hW] at this
    simp only [List.length_append, List.length_cons, List.length_nil] at *
    omega)
  clear hW
  have HLW : Hid (l0.length + (wordF 5).length ≤ maxW) := Lib.hid (by
    have := h.len
    rw [HWF.out] at this
    try simp only [List.length_append] at this
    omega)
  clear h
  go_enter Tryd.func26, Tryd.ntmps26
  go_upto_region 1 with fail
  have HT0 : Hid (Blk ((w.alloc (.cells #[.pointer (some ⟨b, 0, none⟩)] 42)).alloc (.cells #[.int .i64 5, .int .i64 oc, .string f, .string t, .string u, .slice L lo.length cl, .slice Hh hi.length ch, .int .i64 bo, .int .i64 op, .slice K 0 ck] 25)) w.heap.size 42 #[.pointer (some ⟨b, 0, none⟩)]) := Lib.hid ((Blk.new w _ _).alloc _)
  have HQ0 : Hid (Blk ((w.alloc (.cells #[.pointer (some ⟨b, 0, none⟩)] 42)).alloc (.cells #[.int .i64 5, .int .i64 oc, .string f, .string t, .string u, .slice L lo.length cl, .slice Hh hi.length ch, .int .i64 bo, .int .i64 op, .slice K 0 ck] 25)) (w.heap.size + 1) 25 #[.int .i64 5, .int .i64 oc, .string f, .string t, .string u, .slice L lo.length cl, .slice Hh hi.length ch, .int .i64 bo, .int .i64 op, .slice K 0 ck]) := Lib.hid (blk_two w _ _ _)
  have HW0 : Hid (Below w.heap.size w ((w.alloc (.cells #[.pointer (some ⟨b, 0, none⟩)] 42)).alloc (.cells #[.int .i64 5, .int .i64 oc, .string f, .string t, .string u, .slice L lo.length cl, .slice Hh hi.length ch, .int .i64 bo, .int .i64 op, .slice K 0 ck] 25))) := Lib.hid (((Below.refl _ w).alloc (Nat.le_refl _) _).alloc (by simp) _)
  generalize ((w.alloc (.cells #[.pointer (some ⟨b, 0, none⟩)] 42)).alloc (.cells #[.int .i64 5, .int .i64 oc, .string f, .string t, .string u, .slice L lo.length cl, .slice Hh hi.length ch, .int .i64 bo, .int .i64 op, .slice K 0 ck] 25)) = W0 at *
  have hz0 : w.heap.size + 1 < W0.heap.size := HQ0.out.lt
  have HB0 := Lib.hid (HA.out.buf.keep HW0.out)
  refine wp_region_held_drew (S := fun V => Wr B (fun g => g = b) W0 V) (by kernel_rfl) ((Wr.refl B _ W0).drew) (fun hSd0 => ?_)
  refine' wpAnyH_take (i := 0) (v := _) (by simp only [List.getElem?_toArray, List.getElem?_cons_zero]; rfl) (by kernel_rfl) (by kernel_rfl) (by kernel_rfl) (by exact fun _ _ _ h => h) (Or.inl ⟨by rfl, ?hyd0⟩) hSd0 ?restd0
  case hyd0 => intro V hSw; have fq := (hSw.blk HT0.out (by omega) (by decide)).cell 0; clear hSw; go_simp; try with_reducible rfl
  try simp only [Act.put, List.setIfInBounds_toArray, List.set_cons_zero, List.set_cons_succ]
  refine' wpAnyH_take (i := 1) (v := _) (by simp only [List.getElem?_toArray, List.getElem?_cons_succ, List.getElem?_cons_zero]; rfl) (by kernel_rfl) (by kernel_rfl) (by kernel_rfl) (by exact fun _ _ _ h => h) (Or.inl ⟨by rfl, ?hyd1⟩) hSd0 ?restd1
  case hyd1 => intro V hSw; clear hSw; go_simp; try with_reducible rfl
  try simp only [Act.put, List.setIfInBounds_toArray, List.set_cons_zero, List.set_cons_succ]
  refine' wpAnyH_take (i := 2) (v := _) (by simp only [List.getElem?_toArray, List.getElem?_cons_succ, List.getElem?_cons_zero]; rfl) (by kernel_rfl) (by kernel_rfl) (by kernel_rfl) (by exact fun _ _ _ h => h) (Or.inl ⟨by rfl, ?hyd2⟩) hSd0 ?restd2
  case hyd2 => intro V hSw; have fq := (hSw.blk HQ0.out (by omega) (by decide)).cell 0; clear hSw; go_simp; try with_reducible rfl
  try simp only [Act.put, List.setIfInBounds_toArray, List.set_cons_zero, List.set_cons_succ]
  refine wpAnyH_ready (rs := [3]) (by kernel_rfl) (by simp) ?_
  refine' AllReadyH.cons (by simp only [List.getElem?_toArray, List.getElem?_cons_succ, List.getElem?_cons_zero]; rfl) (fun KC hK => ?_) AllReadyH.nil
  go_simp
  refine (word_any 5 _ (by decide)).mono ?_
  rintro e V ⟨rfl, rfl⟩
  go_simp
  refine hK.out _ _ hSd0 (fun hSd1 => ?_)
  clear hK
  try simp only [Act.put, List.setIfInBounds_toArray, List.set_cons_zero, List.set_cons_succ]
  refine wpAnyH_ready (rs := [4]) (by kernel_rfl) (by simp) ?_
  refine' AllReadyH.cons (by simp only [List.getElem?_toArray, List.getElem?_cons_succ, List.getElem?_cons_zero]; rfl) (fun KC hK => ?_) AllReadyH.nil
  go_simp
  refine (string_put B b l0 (str (wordF 5)) _ (HB0.out.keep (Below.refl _ W0).drew) HLW.out).mono ?_
  rintro e W1 ⟨rfl, hb, hw⟩
  have hw1 := ((Wr.refl B (fun g => g = b) W0).drew).trans hw
  have HB1 := Lib.hid hb; have HW1 := Lib.hid hw1
  clear hb hw
  go_simp
  refine hK.out _ _ hw1 (fun hSd2 => ?_)
  clear hK hw1
  try simp only [Act.put, List.setIfInBounds_toArray, List.set_cons_zero, List.set_cons_succ]
  refine wpAnyH_done (by kernel_rfl) ?_ _
  clear hSd0 hSd1 hSd2
  have HT1 := Lib.hid (HW1.out.blk HT0.out (by omega) (by decide))
  have HQ1 := Lib.hid (HW1.out.blk HQ0.out (by omega) (by decide))
  have hz1 : w.heap.size + 1 < W1.heap.size := HQ1.out.lt
  have HWw1 := Lib.hid ((Wr.same (S := fun g => g = b) HW0.out hBw).trans HW1.out)
  obtain ⟨c0, c1, c2, c3, c4, c5, c6, c7, c8, c9⟩ := tenB HQ1.out
  have cT : W1.cell? ⟨w.heap.size, 0, none⟩ = some (.pointer (some ⟨b, 0, none⟩)) := HT1.out.cell 0
  go_upto_region 5 with fail
  have HT2 : Hid (Blk (W1.alloc (.cells #[.int .i64 0] 3)) w.heap.size 42 #[.pointer (some ⟨b, 0, none⟩)]) := Lib.hid (HT1.out.alloc _)
  have HQ2 := Lib.hid (HQ1.out.alloc (.cells #[.int .i64 0] 3))
  have HP2 : Hid (Blk (W1.alloc (.cells #[.int .i64 0] 3)) W1.heap.size 3 #[.int .i64 0]) := Lib.hid (Blk.new W1 _ _)
  have HWw2 := Lib.hid (HWw1.out.alloc (by omega) (.cells #[.int .i64 0] 3))
  have HB2 := Lib.hid (HB1.out.keep ((Below.refl _ W1).alloc (Nat.le_refl _) (.cells #[.int .i64 0] 3)))
  have HBY := Lib.hid (byte_put B b _ 40 _ HB2.out (by have := HM.out; show (l0 ++ wordF 5).length + 1 ≤ maxW; simp only [List.length_append, List.length_cons, List.length_nil] at *; omega))
  have hzP : w.heap.size + 1 < W1.heap.size := hz1
  generalize W1.alloc (.cells #[.int .i64 0] 3) = W2 at *
  generalize W1.heap.size = PP at *
  clear c0 c1 c2 c3 c4 c5 c6 c7 c8 c9 cT
  have cT : W2.cell? ⟨w.heap.size, 0, none⟩ = some (.pointer (some ⟨b, 0, none⟩)) := HT2.out.cell 0
  go_wp2_with fail
  refine HBY.out.mono ?_
  rintro e V0 ⟨rfl, hb, hw⟩
  have HV0 : Hid (WS B b w.heap.size (w.heap.size + 1) PP 5 oc f t u lo hi bo op 0 L Hh K cl ch ck (l0 ++ wordF 5 ++ [40]) w [] V0) := Lib.hid (by
    have hwv := HWw2.out.trans hw
    have hb' : Buf B b (l0 ++ wordF 5 ++ [40]) V0 := hb
    exact ⟨⟨hw.blk HT2.out (by omega) (by decide), hw.blk HQ2.out (by omega) (by decide), HA.out.low.below hwv.below, HA.out.high.below hwv.below, HA.out.pow _ hwv.below, fun V hV => HA.out.pow _ (hwv.below.trans hV), by omega, by omega⟩, by simpa [joinF] using hb', hw.blk HP2.out (by omega) (by decide), hwv, by omega, by omega, by omega, by omega, by omega⟩)
  clear hb hw cT HBY
  obtain ⟨c0, c1, c2, c3, c4, c5, c6, c7, c8, c9⟩ := tenB HV0.out.caps.qB
  have HPT := Lib.hid (ws_part (x := f.data.toList) HV0.out 48 #[.pointer (some ⟨w.heap.size, 0, none⟩), .pointer (some ⟨w.heap.size + 1, 0, none⟩)] (enters_of Tryd.func48 (by kernel_rfl) rfl) (hm_of HM.out (pre_le (all := [f.data.toList, quoteF t] ++ writeL numT ([] : List QT)) (ps := []) (x := f.data.toList) (rest := [quoteF t] ++ writeL numT ([] : List QT)) rfl)) (by simp) (fun W hC hW hb hl => clos4 hC hb (hl_of HM.out (pre_le (all := [f.data.toList, quoteF t] ++ writeL numT ([] : List QT)) (ps := []) (x := f.data.toList) (rest := [quoteF t] ++ writeL numT ([] : List QT)) rfl) hl)))
  go_wp2_with fail
  refine HPT.out.mono ?_
  rintro e V1 ⟨rfl, hv⟩
  have HV1 := Lib.hid hv
  clear hv HPT c0 c1 c2 c3 c4 c5 c6 c7 c8 c9 HV0
  obtain ⟨c0, c1, c2, c3, c4, c5, c6, c7, c8, c9⟩ := tenB HV1.out.caps.qB
  have HPT := Lib.hid (ws_part (x := quoteF t) HV1.out 52 #[.pointer (some ⟨w.heap.size, 0, none⟩), .pointer (some ⟨w.heap.size + 1, 0, none⟩)] (enters_of Tryd.func52 (by kernel_rfl) rfl) (hm_of HM.out (pre_le (all := [f.data.toList, quoteF t] ++ writeL numT ([] : List QT)) (ps := [f.data.toList]) (x := quoteF t) (rest := [] ++ writeL numT ([] : List QT)) rfl)) (by simp) (fun W hC hW hb hl => clos7 hC hb (hl_of HM.out (pre_le (all := [f.data.toList, quoteF t] ++ writeL numT ([] : List QT)) (ps := [f.data.toList]) (x := quoteF t) (rest := [] ++ writeL numT ([] : List QT)) rfl) hl) HOK.out.2.1))
  go_wp2_with fail
  refine HPT.out.mono ?_
  rintro e V2 ⟨rfl, hv⟩
  have HV2 := Lib.hid hv
  clear hv HPT c0 c1 c2 c3 c4 c5 c6 c7 c8 c9 HV1
  obtain ⟨c0, c1, c2, c3, c4, c5, c6, c7, c8, c9⟩ := tenB HV2.out.caps.qB
  go_wp2_with fail
  go_loopw [75] (fun i wr => i = .int .i64 0 ∧ wr = V2) (fun i _ => 0)
  case atStart => exact ⟨rfl, rfl⟩
  case round =>
    obtain ⟨rfl, rfl⟩ := hrel
    have HBZ := Lib.hid (byte_put B b _ 41 _ HV2.out.buf (end_of HM.out (by simp [writeL])))
    have cT := HV2.out.caps.tB.cell 0
    go_wp2_with fail
    refine HBZ.out.mono ?_
    rintro e W9 ⟨rfl, hb, hw⟩
    have HB9 := Lib.hid hb; have HW9 := Lib.hid (HV2.out.wr.trans hw)
    clear hb hw c0 c1 c2 c3 c4 c5 c6 c7 c8 c9 cT
    go_wp2_with fail
    go_end0
    exact ⟨rfl, by rw [HWF.out]; simpa [writeL, List.append_assoc] using HB9.out, HW9.out⟩
set_option maxRecDepth 100000 in
set_option maxHeartbeats 16000000 in
theorem write_6 (h : Ask B b l0 6 oc f t u lo hi bo op ([] : List QT) L Hh K ck w) (hf : f.toList.isEmpty = false) :
    Calls Tryd.prog 26 #[.pointer (some ⟨b, 0, none⟩), .agg #[.int .i64 6, .int .i64 oc, .string f, .string t, .string u, .slice L lo.length cl, .slice Hh hi.length ch, .int .i64 bo, .int .i64 op, .slice K 0 ck]] w (PutU B b l0 (writeF numT (.mk 6 oc f t u lo hi bo op ([] : List QT))) w) := by
  have hmf : ∀ (fn : Fn) (first cap : Array Value) (w : World), (Instr.makeFunc fn first cap).run Tryd.prog w = .ok (.func fn first cap) w := fun _ _ _ _ => rfl
  have HA := Lib.hid h
  have hBw : B ≤ w.heap.size := by have := h.buf.ge; have := h.buf.size; omega
  have hbw : b < w.heap.size := h.buf.size
  have HOK : Hid ((f : ByteArray).size ≤ 140737488351232 ∧ t.size ≤ 140737488351232 ∧ u.size ≤ 140737488351232 ∧ (lo.length * 8 ≤ 140737488351232 ∧ ∀ z ∈ lo, I64 z) ∧ (hi.length * 8 ≤ 140737488351232 ∧ ∀ z ∈ hi, I64 z) ∧ I64 bo) := Lib.hid (by
    cases h.ok with
    | mk _ _ a1 a2 a3 a4 a5 a6 _ _ _ => exact ⟨a1, a2, a3, a4, a5, a6⟩)
  have hW : writeF numT (.mk 6 oc f t u lo hi bo op ([] : List QT)) = wordF 6 ++ 40 :: (joinF [44, 32] ([f.data.toList, quoteF t, quoteF u] ++ writeL numT ([] : List QT)) ++ [41]) := by
    rw [writeF, if_neg (by decide)]; rfl
  have HWF := Lib.hid hW
  have HM : Hid ((l0 ++ wordF 6 ++ [40]).length + (joinF [44, 32] ([f.data.toList, quoteF t, quoteF u] ++ writeL numT ([] : List QT))).length + 101 ≤ maxW) := Lib.hid (by
    have := h.len
    rw [hW] at this
    simp only [List.length_append, List.length_cons, List.length_nil] at *
    omega)
  clear hW
  have HLW : Hid (l0.length + (wordF 6).length ≤ maxW) := Lib.hid (by
    have := h.len
    rw [HWF.out] at this
    try simp only [List.length_append] at this
    omega)
  clear h
  go_enter Tryd.func26, Tryd.ntmps26
  go_upto_region 1 with fail
  have HT0 : Hid (Blk ((w.alloc (.cells #[.pointer (some ⟨b, 0, none⟩)] 42)).alloc (.cells #[.int .i64 6, .int .i64 oc, .string f, .string t, .string u, .slice L lo.length cl, .slice Hh hi.length ch, .int .i64 bo, .int .i64 op, .slice K 0 ck] 25)) w.heap.size 42 #[.pointer (some ⟨b, 0, none⟩)]) := Lib.hid ((Blk.new w _ _).alloc _)
  have HQ0 : Hid (Blk ((w.alloc (.cells #[.pointer (some ⟨b, 0, none⟩)] 42)).alloc (.cells #[.int .i64 6, .int .i64 oc, .string f, .string t, .string u, .slice L lo.length cl, .slice Hh hi.length ch, .int .i64 bo, .int .i64 op, .slice K 0 ck] 25)) (w.heap.size + 1) 25 #[.int .i64 6, .int .i64 oc, .string f, .string t, .string u, .slice L lo.length cl, .slice Hh hi.length ch, .int .i64 bo, .int .i64 op, .slice K 0 ck]) := Lib.hid (blk_two w _ _ _)
  have HW0 : Hid (Below w.heap.size w ((w.alloc (.cells #[.pointer (some ⟨b, 0, none⟩)] 42)).alloc (.cells #[.int .i64 6, .int .i64 oc, .string f, .string t, .string u, .slice L lo.length cl, .slice Hh hi.length ch, .int .i64 bo, .int .i64 op, .slice K 0 ck] 25))) := Lib.hid (((Below.refl _ w).alloc (Nat.le_refl _) _).alloc (by simp) _)
  generalize ((w.alloc (.cells #[.pointer (some ⟨b, 0, none⟩)] 42)).alloc (.cells #[.int .i64 6, .int .i64 oc, .string f, .string t, .string u, .slice L lo.length cl, .slice Hh hi.length ch, .int .i64 bo, .int .i64 op, .slice K 0 ck] 25)) = W0 at *
  have hz0 : w.heap.size + 1 < W0.heap.size := HQ0.out.lt
  have HB0 := Lib.hid (HA.out.buf.keep HW0.out)
  refine wp_region_held_drew (S := fun V => Wr B (fun g => g = b) W0 V) (by kernel_rfl) ((Wr.refl B _ W0).drew) (fun hSd0 => ?_)
  refine' wpAnyH_take (i := 0) (v := _) (by simp only [List.getElem?_toArray, List.getElem?_cons_zero]; rfl) (by kernel_rfl) (by kernel_rfl) (by kernel_rfl) (by exact fun _ _ _ h => h) (Or.inl ⟨by rfl, ?hyd0⟩) hSd0 ?restd0
  case hyd0 => intro V hSw; have fq := (hSw.blk HT0.out (by omega) (by decide)).cell 0; clear hSw; go_simp; try with_reducible rfl
  try simp only [Act.put, List.setIfInBounds_toArray, List.set_cons_zero, List.set_cons_succ]
  refine' wpAnyH_take (i := 1) (v := _) (by simp only [List.getElem?_toArray, List.getElem?_cons_succ, List.getElem?_cons_zero]; rfl) (by kernel_rfl) (by kernel_rfl) (by kernel_rfl) (by exact fun _ _ _ h => h) (Or.inl ⟨by rfl, ?hyd1⟩) hSd0 ?restd1
  case hyd1 => intro V hSw; clear hSw; go_simp; try with_reducible rfl
  try simp only [Act.put, List.setIfInBounds_toArray, List.set_cons_zero, List.set_cons_succ]
  refine' wpAnyH_take (i := 2) (v := _) (by simp only [List.getElem?_toArray, List.getElem?_cons_succ, List.getElem?_cons_zero]; rfl) (by kernel_rfl) (by kernel_rfl) (by kernel_rfl) (by exact fun _ _ _ h => h) (Or.inl ⟨by rfl, ?hyd2⟩) hSd0 ?restd2
  case hyd2 => intro V hSw; have fq := (hSw.blk HQ0.out (by omega) (by decide)).cell 0; clear hSw; go_simp; try with_reducible rfl
  try simp only [Act.put, List.setIfInBounds_toArray, List.set_cons_zero, List.set_cons_succ]
  refine wpAnyH_ready (rs := [3]) (by kernel_rfl) (by simp) ?_
  refine' AllReadyH.cons (by simp only [List.getElem?_toArray, List.getElem?_cons_succ, List.getElem?_cons_zero]; rfl) (fun KC hK => ?_) AllReadyH.nil
  go_simp
  refine (word_any 6 _ (by decide)).mono ?_
  rintro e V ⟨rfl, rfl⟩
  go_simp
  refine hK.out _ _ hSd0 (fun hSd1 => ?_)
  clear hK
  try simp only [Act.put, List.setIfInBounds_toArray, List.set_cons_zero, List.set_cons_succ]
  refine wpAnyH_ready (rs := [4]) (by kernel_rfl) (by simp) ?_
  refine' AllReadyH.cons (by simp only [List.getElem?_toArray, List.getElem?_cons_succ, List.getElem?_cons_zero]; rfl) (fun KC hK => ?_) AllReadyH.nil
  go_simp
  refine (string_put B b l0 (str (wordF 6)) _ (HB0.out.keep (Below.refl _ W0).drew) HLW.out).mono ?_
  rintro e W1 ⟨rfl, hb, hw⟩
  have hw1 := ((Wr.refl B (fun g => g = b) W0).drew).trans hw
  have HB1 := Lib.hid hb; have HW1 := Lib.hid hw1
  clear hb hw
  go_simp
  refine hK.out _ _ hw1 (fun hSd2 => ?_)
  clear hK hw1
  try simp only [Act.put, List.setIfInBounds_toArray, List.set_cons_zero, List.set_cons_succ]
  refine wpAnyH_done (by kernel_rfl) ?_ _
  clear hSd0 hSd1 hSd2
  have HT1 := Lib.hid (HW1.out.blk HT0.out (by omega) (by decide))
  have HQ1 := Lib.hid (HW1.out.blk HQ0.out (by omega) (by decide))
  have hz1 : w.heap.size + 1 < W1.heap.size := HQ1.out.lt
  have HWw1 := Lib.hid ((Wr.same (S := fun g => g = b) HW0.out hBw).trans HW1.out)
  obtain ⟨c0, c1, c2, c3, c4, c5, c6, c7, c8, c9⟩ := tenB HQ1.out
  have cT : W1.cell? ⟨w.heap.size, 0, none⟩ = some (.pointer (some ⟨b, 0, none⟩)) := HT1.out.cell 0
  go_upto_region 5 with fail
  have HT2 : Hid (Blk (W1.alloc (.cells #[.int .i64 0] 3)) w.heap.size 42 #[.pointer (some ⟨b, 0, none⟩)]) := Lib.hid (HT1.out.alloc _)
  have HQ2 := Lib.hid (HQ1.out.alloc (.cells #[.int .i64 0] 3))
  have HP2 : Hid (Blk (W1.alloc (.cells #[.int .i64 0] 3)) W1.heap.size 3 #[.int .i64 0]) := Lib.hid (Blk.new W1 _ _)
  have HWw2 := Lib.hid (HWw1.out.alloc (by omega) (.cells #[.int .i64 0] 3))
  have HB2 := Lib.hid (HB1.out.keep ((Below.refl _ W1).alloc (Nat.le_refl _) (.cells #[.int .i64 0] 3)))
  have HBY := Lib.hid (byte_put B b _ 40 _ HB2.out (by have := HM.out; show (l0 ++ wordF 6).length + 1 ≤ maxW; simp only [List.length_append, List.length_cons, List.length_nil] at *; omega))
  have hzP : w.heap.size + 1 < W1.heap.size := hz1
  generalize W1.alloc (.cells #[.int .i64 0] 3) = W2 at *
  generalize W1.heap.size = PP at *
  clear c0 c1 c2 c3 c4 c5 c6 c7 c8 c9 cT
  have cT : W2.cell? ⟨w.heap.size, 0, none⟩ = some (.pointer (some ⟨b, 0, none⟩)) := HT2.out.cell 0
  go_wp2_with fail
  refine HBY.out.mono ?_
  rintro e V0 ⟨rfl, hb, hw⟩
  have HV0 : Hid (WS B b w.heap.size (w.heap.size + 1) PP 6 oc f t u lo hi bo op 0 L Hh K cl ch ck (l0 ++ wordF 6 ++ [40]) w [] V0) := Lib.hid (by
    have hwv := HWw2.out.trans hw
    have hb' : Buf B b (l0 ++ wordF 6 ++ [40]) V0 := hb
    exact ⟨⟨hw.blk HT2.out (by omega) (by decide), hw.blk HQ2.out (by omega) (by decide), HA.out.low.below hwv.below, HA.out.high.below hwv.below, HA.out.pow _ hwv.below, fun V hV => HA.out.pow _ (hwv.below.trans hV), by omega, by omega⟩, by simpa [joinF] using hb', hw.blk HP2.out (by omega) (by decide), hwv, by omega, by omega, by omega, by omega, by omega⟩)
  clear hb hw cT HBY
  obtain ⟨c0, c1, c2, c3, c4, c5, c6, c7, c8, c9⟩ := tenB HV0.out.caps.qB
  have HPT := Lib.hid (ws_part (x := f.data.toList) HV0.out 48 #[.pointer (some ⟨w.heap.size, 0, none⟩), .pointer (some ⟨w.heap.size + 1, 0, none⟩)] (enters_of Tryd.func48 (by kernel_rfl) rfl) (hm_of HM.out (pre_le (all := [f.data.toList, quoteF t, quoteF u] ++ writeL numT ([] : List QT)) (ps := []) (x := f.data.toList) (rest := [quoteF t, quoteF u] ++ writeL numT ([] : List QT)) rfl)) (by simp) (fun W hC hW hb hl => clos4 hC hb (hl_of HM.out (pre_le (all := [f.data.toList, quoteF t, quoteF u] ++ writeL numT ([] : List QT)) (ps := []) (x := f.data.toList) (rest := [quoteF t, quoteF u] ++ writeL numT ([] : List QT)) rfl) hl)))
  go_wp2_with fail
  refine HPT.out.mono ?_
  rintro e V1 ⟨rfl, hv⟩
  have HV1 := Lib.hid hv
  clear hv HPT c0 c1 c2 c3 c4 c5 c6 c7 c8 c9 HV0
  obtain ⟨c0, c1, c2, c3, c4, c5, c6, c7, c8, c9⟩ := tenB HV1.out.caps.qB
  have HPT := Lib.hid (ws_part (x := quoteF t) HV1.out 49 #[.pointer (some ⟨w.heap.size, 0, none⟩), .pointer (some ⟨w.heap.size + 1, 0, none⟩)] (enters_of Tryd.func49 (by kernel_rfl) rfl) (hm_of HM.out (pre_le (all := [f.data.toList, quoteF t, quoteF u] ++ writeL numT ([] : List QT)) (ps := [f.data.toList]) (x := quoteF t) (rest := [quoteF u] ++ writeL numT ([] : List QT)) rfl)) (by simp) (fun W hC hW hb hl => clos5 hC hb (hl_of HM.out (pre_le (all := [f.data.toList, quoteF t, quoteF u] ++ writeL numT ([] : List QT)) (ps := [f.data.toList]) (x := quoteF t) (rest := [quoteF u] ++ writeL numT ([] : List QT)) rfl) hl) HOK.out.2.1))
  go_wp2_with fail
  refine HPT.out.mono ?_
  rintro e V2 ⟨rfl, hv⟩
  have HV2 := Lib.hid hv
  clear hv HPT c0 c1 c2 c3 c4 c5 c6 c7 c8 c9 HV1
  obtain ⟨c0, c1, c2, c3, c4, c5, c6, c7, c8, c9⟩ := tenB HV2.out.caps.qB
  have HPT := Lib.hid (ws_part (x := quoteF u) HV2.out 51 #[.pointer (some ⟨w.heap.size, 0, none⟩), .pointer (some ⟨w.heap.size + 1, 0, none⟩)] (enters_of Tryd.func51 (by kernel_rfl) rfl) (hm_of HM.out (pre_le (all := [f.data.toList, quoteF t, quoteF u] ++ writeL numT ([] : List QT)) (ps := [f.data.toList, quoteF t]) (x := quoteF u) (rest := [] ++ writeL numT ([] : List QT)) rfl)) (by simp) (fun W hC hW hb hl => clos6 hC hb (hl_of HM.out (pre_le (all := [f.data.toList, quoteF t, quoteF u] ++ writeL numT ([] : List QT)) (ps := [f.data.toList, quoteF t]) (x := quoteF u) (rest := [] ++ writeL numT ([] : List QT)) rfl) hl) HOK.out.2.2.1))
  go_wp2_with fail
  refine HPT.out.mono ?_
  rintro e V3 ⟨rfl, hv⟩
  have HV3 := Lib.hid hv
  clear hv HPT c0 c1 c2 c3 c4 c5 c6 c7 c8 c9 HV2
  obtain ⟨c0, c1, c2, c3, c4, c5, c6, c7, c8, c9⟩ := tenB HV3.out.caps.qB
  go_wp2_with fail
  go_loopw [75] (fun i wr => i = .int .i64 0 ∧ wr = V3) (fun i _ => 0)
  case atStart => exact ⟨rfl, rfl⟩
  case round =>
    obtain ⟨rfl, rfl⟩ := hrel
    have HBZ := Lib.hid (byte_put B b _ 41 _ HV3.out.buf (end_of HM.out (by simp [writeL])))
    have cT := HV3.out.caps.tB.cell 0
    go_wp2_with fail
    refine HBZ.out.mono ?_
    rintro e W9 ⟨rfl, hb, hw⟩
    have HB9 := Lib.hid hb; have HW9 := Lib.hid (HV3.out.wr.trans hw)
    clear hb hw c0 c1 c2 c3 c4 c5 c6 c7 c8 c9 cT
    go_wp2_with fail
    go_end0
    exact ⟨rfl, by rw [HWF.out]; simpa [writeL, List.append_assoc] using HB9.out, HW9.out⟩
set_option maxRecDepth 100000 in
set_option maxHeartbeats 16000000 in
theorem write_7 (h : Ask B b l0 7 oc f t u lo hi bo op ([] : List QT) L Hh K ck w) (hf : f.toList.isEmpty = false) :
    Calls Tryd.prog 26 #[.pointer (some ⟨b, 0, none⟩), .agg #[.int .i64 7, .int .i64 oc, .string f, .string t, .string u, .slice L lo.length cl, .slice Hh hi.length ch, .int .i64 bo, .int .i64 op, .slice K 0 ck]] w (PutU B b l0 (writeF numT (.mk 7 oc f t u lo hi bo op ([] : List QT))) w) := by
  have hmf : ∀ (fn : Fn) (first cap : Array Value) (w : World), (Instr.makeFunc fn first cap).run Tryd.prog w = .ok (.func fn first cap) w := fun _ _ _ _ => rfl
  have HA := Lib.hid h
  have hBw : B ≤ w.heap.size := by have := h.buf.ge; have := h.buf.size; omega
  have hbw : b < w.heap.size := h.buf.size
  have HOK : Hid ((f : ByteArray).size ≤ 140737488351232 ∧ t.size ≤ 140737488351232 ∧ u.size ≤ 140737488351232 ∧ (lo.length * 8 ≤ 140737488351232 ∧ ∀ z ∈ lo, I64 z) ∧ (hi.length * 8 ≤ 140737488351232 ∧ ∀ z ∈ hi, I64 z) ∧ I64 bo) := Lib.hid (by
    cases h.ok with
    | mk _ _ a1 a2 a3 a4 a5 a6 _ _ _ => exact ⟨a1, a2, a3, a4, a5, a6⟩)
  have hW : writeF numT (.mk 7 oc f t u lo hi bo op ([] : List QT)) = wordF 7 ++ 40 :: (joinF [44, 32] ([f.data.toList, numsF numT lo, numsF numT hi] ++ writeL numT ([] : List QT)) ++ [41]) := by
    rw [writeF, if_neg (by decide)]; rfl
  have HWF := Lib.hid hW
  have HM : Hid ((l0 ++ wordF 7 ++ [40]).length + (joinF [44, 32] ([f.data.toList, numsF numT lo, numsF numT hi] ++ writeL numT ([] : List QT))).length + 101 ≤ maxW) := Lib.hid (by
    have := h.len
    rw [hW] at this
    simp only [List.length_append, List.length_cons, List.length_nil] at *
    omega)
  clear hW
  have HLW : Hid (l0.length + (wordF 7).length ≤ maxW) := Lib.hid (by
    have := h.len
    rw [HWF.out] at this
    try simp only [List.length_append] at this
    omega)
  clear h
  go_enter Tryd.func26, Tryd.ntmps26
  go_upto_region 1 with fail
  have HT0 : Hid (Blk ((w.alloc (.cells #[.pointer (some ⟨b, 0, none⟩)] 42)).alloc (.cells #[.int .i64 7, .int .i64 oc, .string f, .string t, .string u, .slice L lo.length cl, .slice Hh hi.length ch, .int .i64 bo, .int .i64 op, .slice K 0 ck] 25)) w.heap.size 42 #[.pointer (some ⟨b, 0, none⟩)]) := Lib.hid ((Blk.new w _ _).alloc _)
  have HQ0 : Hid (Blk ((w.alloc (.cells #[.pointer (some ⟨b, 0, none⟩)] 42)).alloc (.cells #[.int .i64 7, .int .i64 oc, .string f, .string t, .string u, .slice L lo.length cl, .slice Hh hi.length ch, .int .i64 bo, .int .i64 op, .slice K 0 ck] 25)) (w.heap.size + 1) 25 #[.int .i64 7, .int .i64 oc, .string f, .string t, .string u, .slice L lo.length cl, .slice Hh hi.length ch, .int .i64 bo, .int .i64 op, .slice K 0 ck]) := Lib.hid (blk_two w _ _ _)
  have HW0 : Hid (Below w.heap.size w ((w.alloc (.cells #[.pointer (some ⟨b, 0, none⟩)] 42)).alloc (.cells #[.int .i64 7, .int .i64 oc, .string f, .string t, .string u, .slice L lo.length cl, .slice Hh hi.length ch, .int .i64 bo, .int .i64 op, .slice K 0 ck] 25))) := Lib.hid (((Below.refl _ w).alloc (Nat.le_refl _) _).alloc (by simp) _)
  generalize ((w.alloc (.cells #[.pointer (some ⟨b, 0, none⟩)] 42)).alloc (.cells #[.int .i64 7, .int .i64 oc, .string f, .string t, .string u, .slice L lo.length cl, .slice Hh hi.length ch, .int .i64 bo, .int .i64 op, .slice K 0 ck] 25)) = W0 at *
  have hz0 : w.heap.size + 1 < W0.heap.size := HQ0.out.lt
  have HB0 := Lib.hid (HA.out.buf.keep HW0.out)
  refine wp_region_held_drew (S := fun V => Wr B (fun g => g = b) W0 V) (by kernel_rfl) ((Wr.refl B _ W0).drew) (fun hSd0 => ?_)
  refine' wpAnyH_take (i := 0) (v := _) (by simp only [List.getElem?_toArray, List.getElem?_cons_zero]; rfl) (by kernel_rfl) (by kernel_rfl) (by kernel_rfl) (by exact fun _ _ _ h => h) (Or.inl ⟨by rfl, ?hyd0⟩) hSd0 ?restd0
  case hyd0 => intro V hSw; have fq := (hSw.blk HT0.out (by omega) (by decide)).cell 0; clear hSw; go_simp; try with_reducible rfl
  try simp only [Act.put, List.setIfInBounds_toArray, List.set_cons_zero, List.set_cons_succ]
  refine' wpAnyH_take (i := 1) (v := _) (by simp only [List.getElem?_toArray, List.getElem?_cons_succ, List.getElem?_cons_zero]; rfl) (by kernel_rfl) (by kernel_rfl) (by kernel_rfl) (by exact fun _ _ _ h => h) (Or.inl ⟨by rfl, ?hyd1⟩) hSd0 ?restd1
  case hyd1 => intro V hSw; clear hSw; go_simp; try with_reducible rfl
  try simp only [Act.put, List.setIfInBounds_toArray, List.set_cons_zero, List.set_cons_succ]
  refine' wpAnyH_take (i := 2) (v := _) (by simp only [List.getElem?_toArray, List.getElem?_cons_succ, List.getElem?_cons_zero]; rfl) (by kernel_rfl) (by kernel_rfl) (by kernel_rfl) (by exact fun _ _ _ h => h) (Or.inl ⟨by rfl, ?hyd2⟩) hSd0 ?restd2
  case hyd2 => intro V hSw; have fq := (hSw.blk HQ0.out (by omega) (by decide)).cell 0; clear hSw; go_simp; try with_reducible rfl
  try simp only [Act.put, List.setIfInBounds_toArray, List.set_cons_zero, List.set_cons_succ]
  refine wpAnyH_ready (rs := [3]) (by kernel_rfl) (by simp) ?_
  refine' AllReadyH.cons (by simp only [List.getElem?_toArray, List.getElem?_cons_succ, List.getElem?_cons_zero]; rfl) (fun KC hK => ?_) AllReadyH.nil
  go_simp
  refine (word_any 7 _ (by decide)).mono ?_
  rintro e V ⟨rfl, rfl⟩
  go_simp
  refine hK.out _ _ hSd0 (fun hSd1 => ?_)
  clear hK
  try simp only [Act.put, List.setIfInBounds_toArray, List.set_cons_zero, List.set_cons_succ]
  refine wpAnyH_ready (rs := [4]) (by kernel_rfl) (by simp) ?_
  refine' AllReadyH.cons (by simp only [List.getElem?_toArray, List.getElem?_cons_succ, List.getElem?_cons_zero]; rfl) (fun KC hK => ?_) AllReadyH.nil
  go_simp
  refine (string_put B b l0 (str (wordF 7)) _ (HB0.out.keep (Below.refl _ W0).drew) HLW.out).mono ?_
  rintro e W1 ⟨rfl, hb, hw⟩
  have hw1 := ((Wr.refl B (fun g => g = b) W0).drew).trans hw
  have HB1 := Lib.hid hb; have HW1 := Lib.hid hw1
  clear hb hw
  go_simp
  refine hK.out _ _ hw1 (fun hSd2 => ?_)
  clear hK hw1
  try simp only [Act.put, List.setIfInBounds_toArray, List.set_cons_zero, List.set_cons_succ]
  refine wpAnyH_done (by kernel_rfl) ?_ _
  clear hSd0 hSd1 hSd2
  have HT1 := Lib.hid (HW1.out.blk HT0.out (by omega) (by decide))
  have HQ1 := Lib.hid (HW1.out.blk HQ0.out (by omega) (by decide))
  have hz1 : w.heap.size + 1 < W1.heap.size := HQ1.out.lt
  have HWw1 := Lib.hid ((Wr.same (S := fun g => g = b) HW0.out hBw).trans HW1.out)
  obtain ⟨c0, c1, c2, c3, c4, c5, c6, c7, c8, c9⟩ := tenB HQ1.out
  have cT : W1.cell? ⟨w.heap.size, 0, none⟩ = some (.pointer (some ⟨b, 0, none⟩)) := HT1.out.cell 0
  go_upto_region 5 with fail
  have HT2 : Hid (Blk (W1.alloc (.cells #[.int .i64 0] 3)) w.heap.size 42 #[.pointer (some ⟨b, 0, none⟩)]) := Lib.hid (HT1.out.alloc _)
  have HQ2 := Lib.hid (HQ1.out.alloc (.cells #[.int .i64 0] 3))
  have HP2 : Hid (Blk (W1.alloc (.cells #[.int .i64 0] 3)) W1.heap.size 3 #[.int .i64 0]) := Lib.hid (Blk.new W1 _ _)
  have HWw2 := Lib.hid (HWw1.out.alloc (by omega) (.cells #[.int .i64 0] 3))
  have HB2 := Lib.hid (HB1.out.keep ((Below.refl _ W1).alloc (Nat.le_refl _) (.cells #[.int .i64 0] 3)))
  have HBY := Lib.hid (byte_put B b _ 40 _ HB2.out (by have := HM.out; show (l0 ++ wordF 7).length + 1 ≤ maxW; simp only [List.length_append, List.length_cons, List.length_nil] at *; omega))
  have hzP : w.heap.size + 1 < W1.heap.size := hz1
  generalize W1.alloc (.cells #[.int .i64 0] 3) = W2 at *
  generalize W1.heap.size = PP at *
  clear c0 c1 c2 c3 c4 c5 c6 c7 c8 c9 cT
  have cT : W2.cell? ⟨w.heap.size, 0, none⟩ = some (.pointer (some ⟨b, 0, none⟩)) := HT2.out.cell 0
  go_wp2_with fail
  refine HBY.out.mono ?_
  rintro e V0 ⟨rfl, hb, hw⟩
  have HV0 : Hid (WS B b w.heap.size (w.heap.size + 1) PP 7 oc f t u lo hi bo op 0 L Hh K cl ch ck (l0 ++ wordF 7 ++ [40]) w [] V0) := Lib.hid (by
    have hwv := HWw2.out.trans hw
    have hb' : Buf B b (l0 ++ wordF 7 ++ [40]) V0 := hb
    exact ⟨⟨hw.blk HT2.out (by omega) (by decide), hw.blk HQ2.out (by omega) (by decide), HA.out.low.below hwv.below, HA.out.high.below hwv.below, HA.out.pow _ hwv.below, fun V hV => HA.out.pow _ (hwv.below.trans hV), by omega, by omega⟩, by simpa [joinF] using hb', hw.blk HP2.out (by omega) (by decide), hwv, by omega, by omega, by omega, by omega, by omega⟩)
  clear hb hw cT HBY
  obtain ⟨c0, c1, c2, c3, c4, c5, c6, c7, c8, c9⟩ := tenB HV0.out.caps.qB
  have HPT := Lib.hid (ws_part (x := f.data.toList) HV0.out 48 #[.pointer (some ⟨w.heap.size, 0, none⟩), .pointer (some ⟨w.heap.size + 1, 0, none⟩)] (enters_of Tryd.func48 (by kernel_rfl) rfl) (hm_of HM.out (pre_le (all := [f.data.toList, numsF numT lo, numsF numT hi] ++ writeL numT ([] : List QT)) (ps := []) (x := f.data.toList) (rest := [numsF numT lo, numsF numT hi] ++ writeL numT ([] : List QT)) rfl)) (by simp) (fun W hC hW hb hl => clos4 hC hb (hl_of HM.out (pre_le (all := [f.data.toList, numsF numT lo, numsF numT hi] ++ writeL numT ([] : List QT)) (ps := []) (x := f.data.toList) (rest := [numsF numT lo, numsF numT hi] ++ writeL numT ([] : List QT)) rfl) hl)))
  go_wp2_with fail
  refine HPT.out.mono ?_
  rintro e V1 ⟨rfl, hv⟩
  have HV1 := Lib.hid hv
  clear hv HPT c0 c1 c2 c3 c4 c5 c6 c7 c8 c9 HV0
  obtain ⟨c0, c1, c2, c3, c4, c5, c6, c7, c8, c9⟩ := tenB HV1.out.caps.qB
  have HPT := Lib.hid (ws_part (x := numsF numT lo) HV1.out 53 #[.pointer (some ⟨w.heap.size, 0, none⟩), .pointer (some ⟨w.heap.size + 1, 0, none⟩)] (enters_of Tryd.func53 (by kernel_rfl) rfl) (hm_of HM.out (pre_le (all := [f.data.toList, numsF numT lo, numsF numT hi] ++ writeL numT ([] : List QT)) (ps := [f.data.toList]) (x := numsF numT lo) (rest := [numsF numT hi] ++ writeL numT ([] : List QT)) rfl)) (by simp) (fun W hC hW hb hl => clos8 hC hb (hl_of HM.out (pre_le (all := [f.data.toList, numsF numT lo, numsF numT hi] ++ writeL numT ([] : List QT)) (ps := [f.data.toList]) (x := numsF numT lo) (rest := [numsF numT hi] ++ writeL numT ([] : List QT)) rfl) hl) HOK.out.2.2.2.1.1 HOK.out.2.2.2.1.2))
  go_wp2_with fail
  refine HPT.out.mono ?_
  rintro e V2 ⟨rfl, hv⟩
  have HV2 := Lib.hid hv
  clear hv HPT c0 c1 c2 c3 c4 c5 c6 c7 c8 c9 HV1
  obtain ⟨c0, c1, c2, c3, c4, c5, c6, c7, c8, c9⟩ := tenB HV2.out.caps.qB
  have HPT := Lib.hid (ws_part (x := numsF numT hi) HV2.out 54 #[.pointer (some ⟨w.heap.size, 0, none⟩), .pointer (some ⟨w.heap.size + 1, 0, none⟩)] (enters_of Tryd.func54 (by kernel_rfl) rfl) (hm_of HM.out (pre_le (all := [f.data.toList, numsF numT lo, numsF numT hi] ++ writeL numT ([] : List QT)) (ps := [f.data.toList, numsF numT lo]) (x := numsF numT hi) (rest := [] ++ writeL numT ([] : List QT)) rfl)) (by simp) (fun W hC hW hb hl => clos9 hC hb (hl_of HM.out (pre_le (all := [f.data.toList, numsF numT lo, numsF numT hi] ++ writeL numT ([] : List QT)) (ps := [f.data.toList, numsF numT lo]) (x := numsF numT hi) (rest := [] ++ writeL numT ([] : List QT)) rfl) hl) HOK.out.2.2.2.2.1.1 HOK.out.2.2.2.2.1.2))
  go_wp2_with fail
  refine HPT.out.mono ?_
  rintro e V3 ⟨rfl, hv⟩
  have HV3 := Lib.hid hv
  clear hv HPT c0 c1 c2 c3 c4 c5 c6 c7 c8 c9 HV2
  obtain ⟨c0, c1, c2, c3, c4, c5, c6, c7, c8, c9⟩ := tenB HV3.out.caps.qB
  go_wp2_with fail
  go_loopw [75] (fun i wr => i = .int .i64 0 ∧ wr = V3) (fun i _ => 0)
  case atStart => exact ⟨rfl, rfl⟩
  case round =>
    obtain ⟨rfl, rfl⟩ := hrel
    have HBZ := Lib.hid (byte_put B b _ 41 _ HV3.out.buf (end_of HM.out (by simp [writeL])))
    have cT := HV3.out.caps.tB.cell 0
    go_wp2_with fail
    refine HBZ.out.mono ?_
    rintro e W9 ⟨rfl, hb, hw⟩
    have HB9 := Lib.hid hb; have HW9 := Lib.hid (HV3.out.wr.trans hw)
    clear hb hw c0 c1 c2 c3 c4 c5 c6 c7 c8 c9 cT
    go_wp2_with fail
    go_end0
    exact ⟨rfl, by rw [HWF.out]; simpa [writeL, List.append_assoc] using HB9.out, HW9.out⟩
set_option maxRecDepth 100000 in
set_option maxHeartbeats 16000000 in
theorem write_8 (h : Ask B b l0 8 oc ⟨#[]⟩ t u lo hi bo op ks L Hh K ck w) :
    Calls Tryd.prog 26 #[.pointer (some ⟨b, 0, none⟩), .agg #[.int .i64 8, .int .i64 oc, .string ⟨#[]⟩, .string t, .string u, .slice L lo.length cl, .slice Hh hi.length ch, .int .i64 bo, .int .i64 op, .slice K ks.length ck]] w (PutU B b l0 (writeF numT (.mk 8 oc ⟨#[]⟩ t u lo hi bo op ks)) w) := by
  have hmf : ∀ (fn : Fn) (first cap : Array Value) (w : World), (Instr.makeFunc fn first cap).run Tryd.prog w = .ok (.func fn first cap) w := fun _ _ _ _ => rfl
  have HA := Lib.hid h
  have hBw : B ≤ w.heap.size := by have := h.buf.ge; have := h.buf.size; omega
  have hbw : b < w.heap.size := h.buf.size
  have HOK : Hid ((⟨#[]⟩ : ByteArray).size ≤ 140737488351232 ∧ t.size ≤ 140737488351232 ∧ u.size ≤ 140737488351232 ∧ (lo.length * 8 ≤ 140737488351232 ∧ ∀ z ∈ lo, I64 z) ∧ (hi.length * 8 ≤ 140737488351232 ∧ ∀ z ∈ hi, I64 z) ∧ I64 bo) := Lib.hid (by
    cases h.ok with
    | mk _ _ a1 a2 a3 a4 a5 a6 _ _ _ => exact ⟨a1, a2, a3, a4, a5, a6⟩)
  have hW : writeF numT (.mk 8 oc ⟨#[]⟩ t u lo hi bo op ks) = wordF 8 ++ 40 :: (joinF [44, 32] ([] ++ writeL numT ks) ++ [41]) := by
    rw [writeF, if_neg (by decide)]; rfl
  have HWF := Lib.hid hW
  have HM : Hid ((l0 ++ wordF 8 ++ [40]).length + (joinF [44, 32] ([] ++ writeL numT ks)).length + 101 ≤ maxW) := Lib.hid (by
    have := h.len
    rw [hW] at this
    simp only [List.length_append, List.length_cons, List.length_nil] at *
    omega)
  clear hW
  have HLW : Hid (l0.length + (wordF 8).length ≤ maxW) := Lib.hid (by
    have := h.len
    rw [HWF.out] at this
    try simp only [List.length_append] at this
    omega)
  clear h
  go_enter Tryd.func26, Tryd.ntmps26
  go_upto_region 1 with fail
  have HT0 : Hid (Blk ((w.alloc (.cells #[.pointer (some ⟨b, 0, none⟩)] 42)).alloc (.cells #[.int .i64 8, .int .i64 oc, .string ⟨#[]⟩, .string t, .string u, .slice L lo.length cl, .slice Hh hi.length ch, .int .i64 bo, .int .i64 op, .slice K ks.length ck] 25)) w.heap.size 42 #[.pointer (some ⟨b, 0, none⟩)]) := Lib.hid ((Blk.new w _ _).alloc _)
  have HQ0 : Hid (Blk ((w.alloc (.cells #[.pointer (some ⟨b, 0, none⟩)] 42)).alloc (.cells #[.int .i64 8, .int .i64 oc, .string ⟨#[]⟩, .string t, .string u, .slice L lo.length cl, .slice Hh hi.length ch, .int .i64 bo, .int .i64 op, .slice K ks.length ck] 25)) (w.heap.size + 1) 25 #[.int .i64 8, .int .i64 oc, .string ⟨#[]⟩, .string t, .string u, .slice L lo.length cl, .slice Hh hi.length ch, .int .i64 bo, .int .i64 op, .slice K ks.length ck]) := Lib.hid (blk_two w _ _ _)
  have HW0 : Hid (Below w.heap.size w ((w.alloc (.cells #[.pointer (some ⟨b, 0, none⟩)] 42)).alloc (.cells #[.int .i64 8, .int .i64 oc, .string ⟨#[]⟩, .string t, .string u, .slice L lo.length cl, .slice Hh hi.length ch, .int .i64 bo, .int .i64 op, .slice K ks.length ck] 25))) := Lib.hid (((Below.refl _ w).alloc (Nat.le_refl _) _).alloc (by simp) _)
  generalize ((w.alloc (.cells #[.pointer (some ⟨b, 0, none⟩)] 42)).alloc (.cells #[.int .i64 8, .int .i64 oc, .string ⟨#[]⟩, .string t, .string u, .slice L lo.length cl, .slice Hh hi.length ch, .int .i64 bo, .int .i64 op, .slice K ks.length ck] 25)) = W0 at *
  have hz0 : w.heap.size + 1 < W0.heap.size := HQ0.out.lt
  have HB0 := Lib.hid (HA.out.buf.keep HW0.out)
  refine wp_region_held_drew (S := fun V => Wr B (fun g => g = b) W0 V) (by kernel_rfl) ((Wr.refl B _ W0).drew) (fun hSd0 => ?_)
  refine' wpAnyH_take (i := 0) (v := _) (by simp only [List.getElem?_toArray, List.getElem?_cons_zero]; rfl) (by kernel_rfl) (by kernel_rfl) (by kernel_rfl) (by exact fun _ _ _ h => h) (Or.inl ⟨by rfl, ?hyd0⟩) hSd0 ?restd0
  case hyd0 => intro V hSw; have fq := (hSw.blk HT0.out (by omega) (by decide)).cell 0; clear hSw; go_simp; try with_reducible rfl
  try simp only [Act.put, List.setIfInBounds_toArray, List.set_cons_zero, List.set_cons_succ]
  refine' wpAnyH_take (i := 1) (v := _) (by simp only [List.getElem?_toArray, List.getElem?_cons_succ, List.getElem?_cons_zero]; rfl) (by kernel_rfl) (by kernel_rfl) (by kernel_rfl) (by exact fun _ _ _ h => h) (Or.inl ⟨by rfl, ?hyd1⟩) hSd0 ?restd1
  case hyd1 => intro V hSw; clear hSw; go_simp; try with_reducible rfl
  try simp only [Act.put, List.setIfInBounds_toArray, List.set_cons_zero, List.set_cons_succ]
  refine' wpAnyH_take (i := 2) (v := _) (by simp only [List.getElem?_toArray, List.getElem?_cons_succ, List.getElem?_cons_zero]; rfl) (by kernel_rfl) (by kernel_rfl) (by kernel_rfl) (by exact fun _ _ _ h => h) (Or.inl ⟨by rfl, ?hyd2⟩) hSd0 ?restd2
  case hyd2 => intro V hSw; have fq := (hSw.blk HQ0.out (by omega) (by decide)).cell 0; clear hSw; go_simp; try with_reducible rfl
  try simp only [Act.put, List.setIfInBounds_toArray, List.set_cons_zero, List.set_cons_succ]
  refine wpAnyH_ready (rs := [3]) (by kernel_rfl) (by simp) ?_
  refine' AllReadyH.cons (by simp only [List.getElem?_toArray, List.getElem?_cons_succ, List.getElem?_cons_zero]; rfl) (fun KC hK => ?_) AllReadyH.nil
  go_simp
  refine (word_any 8 _ (by decide)).mono ?_
  rintro e V ⟨rfl, rfl⟩
  go_simp
  refine hK.out _ _ hSd0 (fun hSd1 => ?_)
  clear hK
  try simp only [Act.put, List.setIfInBounds_toArray, List.set_cons_zero, List.set_cons_succ]
  refine wpAnyH_ready (rs := [4]) (by kernel_rfl) (by simp) ?_
  refine' AllReadyH.cons (by simp only [List.getElem?_toArray, List.getElem?_cons_succ, List.getElem?_cons_zero]; rfl) (fun KC hK => ?_) AllReadyH.nil
  go_simp
  refine (string_put B b l0 (str (wordF 8)) _ (HB0.out.keep (Below.refl _ W0).drew) HLW.out).mono ?_
  rintro e W1 ⟨rfl, hb, hw⟩
  have hw1 := ((Wr.refl B (fun g => g = b) W0).drew).trans hw
  have HB1 := Lib.hid hb; have HW1 := Lib.hid hw1
  clear hb hw
  go_simp
  refine hK.out _ _ hw1 (fun hSd2 => ?_)
  clear hK hw1
  try simp only [Act.put, List.setIfInBounds_toArray, List.set_cons_zero, List.set_cons_succ]
  refine wpAnyH_done (by kernel_rfl) ?_ _
  clear hSd0 hSd1 hSd2
  have HT1 := Lib.hid (HW1.out.blk HT0.out (by omega) (by decide))
  have HQ1 := Lib.hid (HW1.out.blk HQ0.out (by omega) (by decide))
  have hz1 : w.heap.size + 1 < W1.heap.size := HQ1.out.lt
  have HWw1 := Lib.hid ((Wr.same (S := fun g => g = b) HW0.out hBw).trans HW1.out)
  obtain ⟨c0, c1, c2, c3, c4, c5, c6, c7, c8, c9⟩ := tenB HQ1.out
  have cT : W1.cell? ⟨w.heap.size, 0, none⟩ = some (.pointer (some ⟨b, 0, none⟩)) := HT1.out.cell 0
  go_upto_region 5 with fail
  have HT2 : Hid (Blk (W1.alloc (.cells #[.int .i64 0] 3)) w.heap.size 42 #[.pointer (some ⟨b, 0, none⟩)]) := Lib.hid (HT1.out.alloc _)
  have HQ2 := Lib.hid (HQ1.out.alloc (.cells #[.int .i64 0] 3))
  have HP2 : Hid (Blk (W1.alloc (.cells #[.int .i64 0] 3)) W1.heap.size 3 #[.int .i64 0]) := Lib.hid (Blk.new W1 _ _)
  have HWw2 := Lib.hid (HWw1.out.alloc (by omega) (.cells #[.int .i64 0] 3))
  have HB2 := Lib.hid (HB1.out.keep ((Below.refl _ W1).alloc (Nat.le_refl _) (.cells #[.int .i64 0] 3)))
  have HBY := Lib.hid (byte_put B b _ 40 _ HB2.out (by have := HM.out; show (l0 ++ wordF 8).length + 1 ≤ maxW; simp only [List.length_append, List.length_cons, List.length_nil] at *; omega))
  have hzP : w.heap.size + 1 < W1.heap.size := hz1
  generalize W1.alloc (.cells #[.int .i64 0] 3) = W2 at *
  generalize W1.heap.size = PP at *
  clear c0 c1 c2 c3 c4 c5 c6 c7 c8 c9 cT
  have cT : W2.cell? ⟨w.heap.size, 0, none⟩ = some (.pointer (some ⟨b, 0, none⟩)) := HT2.out.cell 0
  go_wp2_with fail
  refine HBY.out.mono ?_
  rintro e V0 ⟨rfl, hb, hw⟩
  have HV0 : Hid (WS B b w.heap.size (w.heap.size + 1) PP 8 oc ⟨#[]⟩ t u lo hi bo op ks.length L Hh K cl ch ck (l0 ++ wordF 8 ++ [40]) w [] V0) := Lib.hid (by
    have hwv := HWw2.out.trans hw
    have hb' : Buf B b (l0 ++ wordF 8 ++ [40]) V0 := hb
    exact ⟨⟨hw.blk HT2.out (by omega) (by decide), hw.blk HQ2.out (by omega) (by decide), HA.out.low.below hwv.below, HA.out.high.below hwv.below, HA.out.pow _ hwv.below, fun V hV => HA.out.pow _ (hwv.below.trans hV), by omega, by omega⟩, by simpa [joinF] using hb', hw.blk HP2.out (by omega) (by decide), hwv, by omega, by omega, by omega, by omega, by omega⟩)
  clear hb hw cT HBY
  obtain ⟨c0, c1, c2, c3, c4, c5, c6, c7, c8, c9⟩ := tenB HV0.out.caps.qB
  go_wp2_with fail
  obtain ⟨_, _, hke, hckA, hmkA, helK⟩ := at_kids HA.out.kids
  injection hke with hk1 _ hk3
  subst hk1 hk3
  have HKS := Lib.hid helK
  clear helK hckA
  have hks : ks.length * 152 ≤ 140737488351232 := by
    cases HA.out.ok with
    | mk _ _ _ _ _ _ _ _ _ hks _ => exact hks
  go_loopw [75] (fun i wr => ∃ k : Nat, k ≤ ks.length ∧ i = .int .i64 k ∧ Hid (WS B b w.heap.size (w.heap.size + 1) PP 8 oc ⟨#[]⟩ t u lo hi bo op ks.length L Hh K cl ch ck (l0 ++ wordF 8 ++ [40]) w (([] : List (List UInt8)) ++ (writeL numT ks).take k) wr)) (fun i _ => ks.length - (intOf i).toNat)
  case atStart => exact ⟨0, by omega, rfl, HV0⟩
  case round =>
    clear c0 c1 c2 c3 c4 c5 c6 c7 c8 c9 HV0
    obtain ⟨k, hk, rfl, HQ⟩ := hrel
    by_cases hlt : k < ks.length
    · have hlt2 : (k : Int) < (ks.length : Int) := by omega
      obtain ⟨ad, us, hKe, hba, au, lu, cu⟩ := HKS.out k hlt
      subst hKe
      replace cu := cu.keep (w' := wr) (fun p hp => HQ.out.wr.below.cell (by rw [hp, block_of_add]; exact hba))
      have HD := Lib.hid (HA.out.down ks[k] (List.getElem_mem _))
      have hocc := HA.out.occ ks[k] (List.getElem_mem _)
      have HX := Lib.hid (kids_take hlt)
      have HAL := Lib.hid (kids_all (l0 := l0 ++ wordF 8 ++ [40]) (pc := ([] : List (List UInt8))) hlt HM.out)
      generalize hq : ks[k] = q at *
      obtain ⟨kd', oc', f', t', u', lo', hi', b', op', ks'⟩ := q
      obtain ⟨vl, vh, vk, rfl, hvl, hvh, hkk⟩ := at_cells au
      obtain ⟨B1, d1, rfl, _⟩ := at_ints hvl
      obtain ⟨B2, d2, rfl, _⟩ := at_ints hvh
      obtain ⟨B3, d3, rfl⟩ := at_sl hkk
      obtain ⟨a0, a1, a2, a3, a4, a5, a6, a7, a8, a9⟩ := ten cu
      have HKID := Lib.hid (ws_kid HQ.out au hocc HD.out (by simp only [List.length_append, List.length_nil, List.length_take]; omega) HAL.out)
      clear hq au hvl hvh hkk cu lu hocc HD HAL HQ
      go_wp2_with fail
      refine HKID.out.mono ?_
      rintro e w2 ⟨rfl, hv⟩
      have HV : Hid (WS B b w.heap.size (w.heap.size + 1) PP 8 oc ⟨#[]⟩ t u lo hi bo op ks.length L Hh (some ad) cl ch ck (l0 ++ wordF 8 ++ [40]) w (([] : List (List UInt8)) ++ (writeL numT ks).take (k + 1)) w2) := Lib.hid (by rw [HX.out, ← List.append_assoc]; exact hv)
      clear hv a0 a1 a2 a3 a4 a5 a6 a7 a8 a9 HKID
      go_wp2_with fail
      go_roundw
      case rel => exact ⟨k + 1, by omega, by go_num, HV⟩
      case measure => simp [intOf]; omega
    · obtain rfl : k = ks.length := by omega
      have hall : ([] : List (List UInt8)) ++ (writeL numT ks).take ks.length = ([] : List (List UInt8)) ++ writeL numT ks := by rw [List.take_of_length_le (by rw [writeL_eq]; simp)]
      rw [hall] at HQ
      have HBZ := Lib.hid (byte_put B b _ 41 _ HQ.out.buf (end_of HM.out rfl))
      have cT := HQ.out.caps.tB.cell 0
      clear hall
      go_wp2_with fail
      refine HBZ.out.mono ?_
      rintro e W9 ⟨rfl, hb, hw⟩
      have HB9 := Lib.hid hb; have HW9 := Lib.hid (HQ.out.wr.trans hw)
      clear hb hw cT
      go_wp2_with fail
      go_end0
      exact ⟨rfl, by rw [HWF.out]; simpa [List.append_assoc] using HB9.out, HW9.out⟩
set_option maxRecDepth 100000 in
set_option maxHeartbeats 16000000 in
theorem write_9 (h : Ask B b l0 9 oc ⟨#[]⟩ t u lo hi bo op ks L Hh K ck w) :
    Calls Tryd.prog 26 #[.pointer (some ⟨b, 0, none⟩), .agg #[.int .i64 9, .int .i64 oc, .string ⟨#[]⟩, .string t, .string u, .slice L lo.length cl, .slice Hh hi.length ch, .int .i64 bo, .int .i64 op, .slice K ks.length ck]] w (PutU B b l0 (writeF numT (.mk 9 oc ⟨#[]⟩ t u lo hi bo op ks)) w) := by
  have hmf : ∀ (fn : Fn) (first cap : Array Value) (w : World), (Instr.makeFunc fn first cap).run Tryd.prog w = .ok (.func fn first cap) w := fun _ _ _ _ => rfl
  have HA := Lib.hid h
  have hBw : B ≤ w.heap.size := by have := h.buf.ge; have := h.buf.size; omega
  have hbw : b < w.heap.size := h.buf.size
  have HOK : Hid ((⟨#[]⟩ : ByteArray).size ≤ 140737488351232 ∧ t.size ≤ 140737488351232 ∧ u.size ≤ 140737488351232 ∧ (lo.length * 8 ≤ 140737488351232 ∧ ∀ z ∈ lo, I64 z) ∧ (hi.length * 8 ≤ 140737488351232 ∧ ∀ z ∈ hi, I64 z) ∧ I64 bo) := Lib.hid (by
    cases h.ok with
    | mk _ _ a1 a2 a3 a4 a5 a6 _ _ _ => exact ⟨a1, a2, a3, a4, a5, a6⟩)
  have hW : writeF numT (.mk 9 oc ⟨#[]⟩ t u lo hi bo op ks) = wordF 9 ++ 40 :: (joinF [44, 32] ([numT bo] ++ writeL numT ks) ++ [41]) := by
    rw [writeF, if_neg (by decide)]; rfl
  have HWF := Lib.hid hW
  have HM : Hid ((l0 ++ wordF 9 ++ [40]).length + (joinF [44, 32] ([numT bo] ++ writeL numT ks)).length + 101 ≤ maxW) := Lib.hid (by
    have := h.len
    rw [hW] at this
    simp only [List.length_append, List.length_cons, List.length_nil] at *
    omega)
  clear hW
  have HLW : Hid (l0.length + (wordF 9).length ≤ maxW) := Lib.hid (by
    have := h.len
    rw [HWF.out] at this
    try simp only [List.length_append] at this
    omega)
  clear h
  go_enter Tryd.func26, Tryd.ntmps26
  go_upto_region 1 with fail
  have HT0 : Hid (Blk ((w.alloc (.cells #[.pointer (some ⟨b, 0, none⟩)] 42)).alloc (.cells #[.int .i64 9, .int .i64 oc, .string ⟨#[]⟩, .string t, .string u, .slice L lo.length cl, .slice Hh hi.length ch, .int .i64 bo, .int .i64 op, .slice K ks.length ck] 25)) w.heap.size 42 #[.pointer (some ⟨b, 0, none⟩)]) := Lib.hid ((Blk.new w _ _).alloc _)
  have HQ0 : Hid (Blk ((w.alloc (.cells #[.pointer (some ⟨b, 0, none⟩)] 42)).alloc (.cells #[.int .i64 9, .int .i64 oc, .string ⟨#[]⟩, .string t, .string u, .slice L lo.length cl, .slice Hh hi.length ch, .int .i64 bo, .int .i64 op, .slice K ks.length ck] 25)) (w.heap.size + 1) 25 #[.int .i64 9, .int .i64 oc, .string ⟨#[]⟩, .string t, .string u, .slice L lo.length cl, .slice Hh hi.length ch, .int .i64 bo, .int .i64 op, .slice K ks.length ck]) := Lib.hid (blk_two w _ _ _)
  have HW0 : Hid (Below w.heap.size w ((w.alloc (.cells #[.pointer (some ⟨b, 0, none⟩)] 42)).alloc (.cells #[.int .i64 9, .int .i64 oc, .string ⟨#[]⟩, .string t, .string u, .slice L lo.length cl, .slice Hh hi.length ch, .int .i64 bo, .int .i64 op, .slice K ks.length ck] 25))) := Lib.hid (((Below.refl _ w).alloc (Nat.le_refl _) _).alloc (by simp) _)
  generalize ((w.alloc (.cells #[.pointer (some ⟨b, 0, none⟩)] 42)).alloc (.cells #[.int .i64 9, .int .i64 oc, .string ⟨#[]⟩, .string t, .string u, .slice L lo.length cl, .slice Hh hi.length ch, .int .i64 bo, .int .i64 op, .slice K ks.length ck] 25)) = W0 at *
  have hz0 : w.heap.size + 1 < W0.heap.size := HQ0.out.lt
  have HB0 := Lib.hid (HA.out.buf.keep HW0.out)
  refine wp_region_held_drew (S := fun V => Wr B (fun g => g = b) W0 V) (by kernel_rfl) ((Wr.refl B _ W0).drew) (fun hSd0 => ?_)
  refine' wpAnyH_take (i := 0) (v := _) (by simp only [List.getElem?_toArray, List.getElem?_cons_zero]; rfl) (by kernel_rfl) (by kernel_rfl) (by kernel_rfl) (by exact fun _ _ _ h => h) (Or.inl ⟨by rfl, ?hyd0⟩) hSd0 ?restd0
  case hyd0 => intro V hSw; have fq := (hSw.blk HT0.out (by omega) (by decide)).cell 0; clear hSw; go_simp; try with_reducible rfl
  try simp only [Act.put, List.setIfInBounds_toArray, List.set_cons_zero, List.set_cons_succ]
  refine' wpAnyH_take (i := 1) (v := _) (by simp only [List.getElem?_toArray, List.getElem?_cons_succ, List.getElem?_cons_zero]; rfl) (by kernel_rfl) (by kernel_rfl) (by kernel_rfl) (by exact fun _ _ _ h => h) (Or.inl ⟨by rfl, ?hyd1⟩) hSd0 ?restd1
  case hyd1 => intro V hSw; clear hSw; go_simp; try with_reducible rfl
  try simp only [Act.put, List.setIfInBounds_toArray, List.set_cons_zero, List.set_cons_succ]
  refine' wpAnyH_take (i := 2) (v := _) (by simp only [List.getElem?_toArray, List.getElem?_cons_succ, List.getElem?_cons_zero]; rfl) (by kernel_rfl) (by kernel_rfl) (by kernel_rfl) (by exact fun _ _ _ h => h) (Or.inl ⟨by rfl, ?hyd2⟩) hSd0 ?restd2
  case hyd2 => intro V hSw; have fq := (hSw.blk HQ0.out (by omega) (by decide)).cell 0; clear hSw; go_simp; try with_reducible rfl
  try simp only [Act.put, List.setIfInBounds_toArray, List.set_cons_zero, List.set_cons_succ]
  refine wpAnyH_ready (rs := [3]) (by kernel_rfl) (by simp) ?_
  refine' AllReadyH.cons (by simp only [List.getElem?_toArray, List.getElem?_cons_succ, List.getElem?_cons_zero]; rfl) (fun KC hK => ?_) AllReadyH.nil
  go_simp
  refine (word_any 9 _ (by decide)).mono ?_
  rintro e V ⟨rfl, rfl⟩
  go_simp
  refine hK.out _ _ hSd0 (fun hSd1 => ?_)
  clear hK
  try simp only [Act.put, List.setIfInBounds_toArray, List.set_cons_zero, List.set_cons_succ]
  refine wpAnyH_ready (rs := [4]) (by kernel_rfl) (by simp) ?_
  refine' AllReadyH.cons (by simp only [List.getElem?_toArray, List.getElem?_cons_succ, List.getElem?_cons_zero]; rfl) (fun KC hK => ?_) AllReadyH.nil
  go_simp
  refine (string_put B b l0 (str (wordF 9)) _ (HB0.out.keep (Below.refl _ W0).drew) HLW.out).mono ?_
  rintro e W1 ⟨rfl, hb, hw⟩
  have hw1 := ((Wr.refl B (fun g => g = b) W0).drew).trans hw
  have HB1 := Lib.hid hb; have HW1 := Lib.hid hw1
  clear hb hw
  go_simp
  refine hK.out _ _ hw1 (fun hSd2 => ?_)
  clear hK hw1
  try simp only [Act.put, List.setIfInBounds_toArray, List.set_cons_zero, List.set_cons_succ]
  refine wpAnyH_done (by kernel_rfl) ?_ _
  clear hSd0 hSd1 hSd2
  have HT1 := Lib.hid (HW1.out.blk HT0.out (by omega) (by decide))
  have HQ1 := Lib.hid (HW1.out.blk HQ0.out (by omega) (by decide))
  have hz1 : w.heap.size + 1 < W1.heap.size := HQ1.out.lt
  have HWw1 := Lib.hid ((Wr.same (S := fun g => g = b) HW0.out hBw).trans HW1.out)
  obtain ⟨c0, c1, c2, c3, c4, c5, c6, c7, c8, c9⟩ := tenB HQ1.out
  have cT : W1.cell? ⟨w.heap.size, 0, none⟩ = some (.pointer (some ⟨b, 0, none⟩)) := HT1.out.cell 0
  go_upto_region 5 with fail
  have HT2 : Hid (Blk (W1.alloc (.cells #[.int .i64 0] 3)) w.heap.size 42 #[.pointer (some ⟨b, 0, none⟩)]) := Lib.hid (HT1.out.alloc _)
  have HQ2 := Lib.hid (HQ1.out.alloc (.cells #[.int .i64 0] 3))
  have HP2 : Hid (Blk (W1.alloc (.cells #[.int .i64 0] 3)) W1.heap.size 3 #[.int .i64 0]) := Lib.hid (Blk.new W1 _ _)
  have HWw2 := Lib.hid (HWw1.out.alloc (by omega) (.cells #[.int .i64 0] 3))
  have HB2 := Lib.hid (HB1.out.keep ((Below.refl _ W1).alloc (Nat.le_refl _) (.cells #[.int .i64 0] 3)))
  have HBY := Lib.hid (byte_put B b _ 40 _ HB2.out (by have := HM.out; show (l0 ++ wordF 9).length + 1 ≤ maxW; simp only [List.length_append, List.length_cons, List.length_nil] at *; omega))
  have hzP : w.heap.size + 1 < W1.heap.size := hz1
  generalize W1.alloc (.cells #[.int .i64 0] 3) = W2 at *
  generalize W1.heap.size = PP at *
  clear c0 c1 c2 c3 c4 c5 c6 c7 c8 c9 cT
  have cT : W2.cell? ⟨w.heap.size, 0, none⟩ = some (.pointer (some ⟨b, 0, none⟩)) := HT2.out.cell 0
  go_wp2_with fail
  refine HBY.out.mono ?_
  rintro e V0 ⟨rfl, hb, hw⟩
  have HV0 : Hid (WS B b w.heap.size (w.heap.size + 1) PP 9 oc ⟨#[]⟩ t u lo hi bo op ks.length L Hh K cl ch ck (l0 ++ wordF 9 ++ [40]) w [] V0) := Lib.hid (by
    have hwv := HWw2.out.trans hw
    have hb' : Buf B b (l0 ++ wordF 9 ++ [40]) V0 := hb
    exact ⟨⟨hw.blk HT2.out (by omega) (by decide), hw.blk HQ2.out (by omega) (by decide), HA.out.low.below hwv.below, HA.out.high.below hwv.below, HA.out.pow _ hwv.below, fun V hV => HA.out.pow _ (hwv.below.trans hV), by omega, by omega⟩, by simpa [joinF] using hb', hw.blk HP2.out (by omega) (by decide), hwv, by omega, by omega, by omega, by omega, by omega⟩)
  clear hb hw cT HBY
  obtain ⟨c0, c1, c2, c3, c4, c5, c6, c7, c8, c9⟩ := tenB HV0.out.caps.qB
  have HPT := Lib.hid (ws_part (x := numT bo) HV0.out 44 #[.pointer (some ⟨w.heap.size, 0, none⟩), .pointer (some ⟨w.heap.size + 1, 0, none⟩)] (enters_of Tryd.func44 (by kernel_rfl) rfl) (hm_of HM.out (pre_le (all := [numT bo] ++ writeL numT ks) (ps := []) (x := numT bo) (rest := [] ++ writeL numT ks) rfl)) (by simp) (fun W hC hW hb hl => clos2 hC hb (hl_of HM.out (pre_le (all := [numT bo] ++ writeL numT ks) (ps := []) (x := numT bo) (rest := [] ++ writeL numT ks) rfl) hl) HOK.out.2.2.2.2.2))
  go_wp2_with fail
  refine HPT.out.mono ?_
  rintro e V1 ⟨rfl, hv⟩
  have HV1 := Lib.hid hv
  clear hv HPT c0 c1 c2 c3 c4 c5 c6 c7 c8 c9 HV0
  obtain ⟨c0, c1, c2, c3, c4, c5, c6, c7, c8, c9⟩ := tenB HV1.out.caps.qB
  go_wp2_with fail
  obtain ⟨_, _, hke, hckA, hmkA, helK⟩ := at_kids HA.out.kids
  injection hke with hk1 _ hk3
  subst hk1 hk3
  have HKS := Lib.hid helK
  clear helK hckA
  have hks : ks.length * 152 ≤ 140737488351232 := by
    cases HA.out.ok with
    | mk _ _ _ _ _ _ _ _ _ hks _ => exact hks
  go_loopw [75] (fun i wr => ∃ k : Nat, k ≤ ks.length ∧ i = .int .i64 k ∧ Hid (WS B b w.heap.size (w.heap.size + 1) PP 9 oc ⟨#[]⟩ t u lo hi bo op ks.length L Hh K cl ch ck (l0 ++ wordF 9 ++ [40]) w ([numT bo] ++ (writeL numT ks).take k) wr)) (fun i _ => ks.length - (intOf i).toNat)
  case atStart => exact ⟨0, by omega, rfl, HV1⟩
  case round =>
    clear c0 c1 c2 c3 c4 c5 c6 c7 c8 c9 HV1
    obtain ⟨k, hk, rfl, HQ⟩ := hrel
    by_cases hlt : k < ks.length
    · have hlt2 : (k : Int) < (ks.length : Int) := by omega
      obtain ⟨ad, us, hKe, hba, au, lu, cu⟩ := HKS.out k hlt
      subst hKe
      replace cu := cu.keep (w' := wr) (fun p hp => HQ.out.wr.below.cell (by rw [hp, block_of_add]; exact hba))
      have HD := Lib.hid (HA.out.down ks[k] (List.getElem_mem _))
      have hocc := HA.out.occ ks[k] (List.getElem_mem _)
      have HX := Lib.hid (kids_take hlt)
      have HAL := Lib.hid (kids_all (l0 := l0 ++ wordF 9 ++ [40]) (pc := [numT bo]) hlt HM.out)
      generalize hq : ks[k] = q at *
      obtain ⟨kd', oc', f', t', u', lo', hi', b', op', ks'⟩ := q
      obtain ⟨vl, vh, vk, rfl, hvl, hvh, hkk⟩ := at_cells au
      obtain ⟨B1, d1, rfl, _⟩ := at_ints hvl
      obtain ⟨B2, d2, rfl, _⟩ := at_ints hvh
      obtain ⟨B3, d3, rfl⟩ := at_sl hkk
      obtain ⟨a0, a1, a2, a3, a4, a5, a6, a7, a8, a9⟩ := ten cu
      have HKID := Lib.hid (ws_kid HQ.out au hocc HD.out (by simp only [List.length_append, List.length_cons, List.length_nil, List.length_take]; omega) HAL.out)
      clear hq au hvl hvh hkk cu lu hocc HD HAL HQ
      go_wp2_with fail
      refine HKID.out.mono ?_
      rintro e w2 ⟨rfl, hv⟩
      have HV : Hid (WS B b w.heap.size (w.heap.size + 1) PP 9 oc ⟨#[]⟩ t u lo hi bo op ks.length L Hh (some ad) cl ch ck (l0 ++ wordF 9 ++ [40]) w ([numT bo] ++ (writeL numT ks).take (k + 1)) w2) := Lib.hid (by rw [HX.out, ← List.append_assoc]; exact hv)
      clear hv a0 a1 a2 a3 a4 a5 a6 a7 a8 a9 HKID
      go_wp2_with fail
      go_roundw
      case rel => exact ⟨k + 1, by omega, by go_num, HV⟩
      case measure => simp [intOf]; omega
    · obtain rfl : k = ks.length := by omega
      have hall : [numT bo] ++ (writeL numT ks).take ks.length = [numT bo] ++ writeL numT ks := by rw [List.take_of_length_le (by rw [writeL_eq]; simp)]
      rw [hall] at HQ
      have HBZ := Lib.hid (byte_put B b _ 41 _ HQ.out.buf (end_of HM.out rfl))
      have cT := HQ.out.caps.tB.cell 0
      clear hall
      go_wp2_with fail
      refine HBZ.out.mono ?_
      rintro e W9 ⟨rfl, hb, hw⟩
      have HB9 := Lib.hid hb; have HW9 := Lib.hid (HQ.out.wr.trans hw)
      clear hb hw cT
      go_wp2_with fail
      go_end0
      exact ⟨rfl, by rw [HWF.out]; simpa [List.append_assoc] using HB9.out, HW9.out⟩
set_option maxRecDepth 100000 in
set_option maxHeartbeats 16000000 in
theorem write_10 (h : Ask B b l0 10 oc f t u lo hi bo op ks L Hh K ck w) (hf : f.toList.isEmpty = false) (hop : 1 ≤ op ∧ op ≤ 3) :
    Calls Tryd.prog 26 #[.pointer (some ⟨b, 0, none⟩), .agg #[.int .i64 10, .int .i64 oc, .string f, .string t, .string u, .slice L lo.length cl, .slice Hh hi.length ch, .int .i64 bo, .int .i64 op, .slice K ks.length ck]] w (PutU B b l0 (writeF numT (.mk 10 oc f t u lo hi bo op ks)) w) := by
  have hmf : ∀ (fn : Fn) (first cap : Array Value) (w : World), (Instr.makeFunc fn first cap).run Tryd.prog w = .ok (.func fn first cap) w := fun _ _ _ _ => rfl
  have HA := Lib.hid h
  have hBw : B ≤ w.heap.size := by have := h.buf.ge; have := h.buf.size; omega
  have hbw : b < w.heap.size := h.buf.size
  have HOK : Hid ((f : ByteArray).size ≤ 140737488351232 ∧ t.size ≤ 140737488351232 ∧ u.size ≤ 140737488351232 ∧ (lo.length * 8 ≤ 140737488351232 ∧ ∀ z ∈ lo, I64 z) ∧ (hi.length * 8 ≤ 140737488351232 ∧ ∀ z ∈ hi, I64 z) ∧ I64 bo) := Lib.hid (by
    cases h.ok with
    | mk _ _ a1 a2 a3 a4 a5 a6 _ _ _ => exact ⟨a1, a2, a3, a4, a5, a6⟩)
  have hW : writeF numT (.mk 10 oc f t u lo hi bo op ks) = wordF 10 ++ 40 :: (joinF [44, 32] ([opF op, f.data.toList, numsF numT lo] ++ writeL numT ks) ++ [41]) := by
    rw [writeF, if_neg (by decide)]; rfl
  have HWF := Lib.hid hW
  have HM : Hid ((l0 ++ wordF 10 ++ [40]).length + (joinF [44, 32] ([opF op, f.data.toList, numsF numT lo] ++ writeL numT ks)).length + 101 ≤ maxW) := Lib.hid (by
    have := h.len
    rw [hW] at this
    simp only [List.length_append, List.length_cons, List.length_nil] at *
    omega)
  clear hW
  have HLW : Hid (l0.length + (wordF 10).length ≤ maxW) := Lib.hid (by
    have := h.len
    rw [HWF.out] at this
    try simp only [List.length_append] at this
    omega)
  clear h
  go_enter Tryd.func26, Tryd.ntmps26
  go_upto_region 1 with fail
  have HT0 : Hid (Blk ((w.alloc (.cells #[.pointer (some ⟨b, 0, none⟩)] 42)).alloc (.cells #[.int .i64 10, .int .i64 oc, .string f, .string t, .string u, .slice L lo.length cl, .slice Hh hi.length ch, .int .i64 bo, .int .i64 op, .slice K ks.length ck] 25)) w.heap.size 42 #[.pointer (some ⟨b, 0, none⟩)]) := Lib.hid ((Blk.new w _ _).alloc _)
  have HQ0 : Hid (Blk ((w.alloc (.cells #[.pointer (some ⟨b, 0, none⟩)] 42)).alloc (.cells #[.int .i64 10, .int .i64 oc, .string f, .string t, .string u, .slice L lo.length cl, .slice Hh hi.length ch, .int .i64 bo, .int .i64 op, .slice K ks.length ck] 25)) (w.heap.size + 1) 25 #[.int .i64 10, .int .i64 oc, .string f, .string t, .string u, .slice L lo.length cl, .slice Hh hi.length ch, .int .i64 bo, .int .i64 op, .slice K ks.length ck]) := Lib.hid (blk_two w _ _ _)
  have HW0 : Hid (Below w.heap.size w ((w.alloc (.cells #[.pointer (some ⟨b, 0, none⟩)] 42)).alloc (.cells #[.int .i64 10, .int .i64 oc, .string f, .string t, .string u, .slice L lo.length cl, .slice Hh hi.length ch, .int .i64 bo, .int .i64 op, .slice K ks.length ck] 25))) := Lib.hid (((Below.refl _ w).alloc (Nat.le_refl _) _).alloc (by simp) _)
  generalize ((w.alloc (.cells #[.pointer (some ⟨b, 0, none⟩)] 42)).alloc (.cells #[.int .i64 10, .int .i64 oc, .string f, .string t, .string u, .slice L lo.length cl, .slice Hh hi.length ch, .int .i64 bo, .int .i64 op, .slice K ks.length ck] 25)) = W0 at *
  have hz0 : w.heap.size + 1 < W0.heap.size := HQ0.out.lt
  have HB0 := Lib.hid (HA.out.buf.keep HW0.out)
  refine wp_region_held_drew (S := fun V => Wr B (fun g => g = b) W0 V) (by kernel_rfl) ((Wr.refl B _ W0).drew) (fun hSd0 => ?_)
  refine' wpAnyH_take (i := 0) (v := _) (by simp only [List.getElem?_toArray, List.getElem?_cons_zero]; rfl) (by kernel_rfl) (by kernel_rfl) (by kernel_rfl) (by exact fun _ _ _ h => h) (Or.inl ⟨by rfl, ?hyd0⟩) hSd0 ?restd0
  case hyd0 => intro V hSw; have fq := (hSw.blk HT0.out (by omega) (by decide)).cell 0; clear hSw; go_simp; try with_reducible rfl
  try simp only [Act.put, List.setIfInBounds_toArray, List.set_cons_zero, List.set_cons_succ]
  refine' wpAnyH_take (i := 1) (v := _) (by simp only [List.getElem?_toArray, List.getElem?_cons_succ, List.getElem?_cons_zero]; rfl) (by kernel_rfl) (by kernel_rfl) (by kernel_rfl) (by exact fun _ _ _ h => h) (Or.inl ⟨by rfl, ?hyd1⟩) hSd0 ?restd1
  case hyd1 => intro V hSw; clear hSw; go_simp; try with_reducible rfl
  try simp only [Act.put, List.setIfInBounds_toArray, List.set_cons_zero, List.set_cons_succ]
  refine' wpAnyH_take (i := 2) (v := _) (by simp only [List.getElem?_toArray, List.getElem?_cons_succ, List.getElem?_cons_zero]; rfl) (by kernel_rfl) (by kernel_rfl) (by kernel_rfl) (by exact fun _ _ _ h => h) (Or.inl ⟨by rfl, ?hyd2⟩) hSd0 ?restd2
  case hyd2 => intro V hSw; have fq := (hSw.blk HQ0.out (by omega) (by decide)).cell 0; clear hSw; go_simp; try with_reducible rfl
  try simp only [Act.put, List.setIfInBounds_toArray, List.set_cons_zero, List.set_cons_succ]
  refine wpAnyH_ready (rs := [3]) (by kernel_rfl) (by simp) ?_
  refine' AllReadyH.cons (by simp only [List.getElem?_toArray, List.getElem?_cons_succ, List.getElem?_cons_zero]; rfl) (fun KC hK => ?_) AllReadyH.nil
  go_simp
  refine (word_any 10 _ (by decide)).mono ?_
  rintro e V ⟨rfl, rfl⟩
  go_simp
  refine hK.out _ _ hSd0 (fun hSd1 => ?_)
  clear hK
  try simp only [Act.put, List.setIfInBounds_toArray, List.set_cons_zero, List.set_cons_succ]
  refine wpAnyH_ready (rs := [4]) (by kernel_rfl) (by simp) ?_
  refine' AllReadyH.cons (by simp only [List.getElem?_toArray, List.getElem?_cons_succ, List.getElem?_cons_zero]; rfl) (fun KC hK => ?_) AllReadyH.nil
  go_simp
  refine (string_put B b l0 (str (wordF 10)) _ (HB0.out.keep (Below.refl _ W0).drew) HLW.out).mono ?_
  rintro e W1 ⟨rfl, hb, hw⟩
  have hw1 := ((Wr.refl B (fun g => g = b) W0).drew).trans hw
  have HB1 := Lib.hid hb; have HW1 := Lib.hid hw1
  clear hb hw
  go_simp
  refine hK.out _ _ hw1 (fun hSd2 => ?_)
  clear hK hw1
  try simp only [Act.put, List.setIfInBounds_toArray, List.set_cons_zero, List.set_cons_succ]
  refine wpAnyH_done (by kernel_rfl) ?_ _
  clear hSd0 hSd1 hSd2
  have HT1 := Lib.hid (HW1.out.blk HT0.out (by omega) (by decide))
  have HQ1 := Lib.hid (HW1.out.blk HQ0.out (by omega) (by decide))
  have hz1 : w.heap.size + 1 < W1.heap.size := HQ1.out.lt
  have HWw1 := Lib.hid ((Wr.same (S := fun g => g = b) HW0.out hBw).trans HW1.out)
  obtain ⟨c0, c1, c2, c3, c4, c5, c6, c7, c8, c9⟩ := tenB HQ1.out
  have cT : W1.cell? ⟨w.heap.size, 0, none⟩ = some (.pointer (some ⟨b, 0, none⟩)) := HT1.out.cell 0
  go_upto_region 5 with fail
  have HT2 : Hid (Blk (W1.alloc (.cells #[.int .i64 0] 3)) w.heap.size 42 #[.pointer (some ⟨b, 0, none⟩)]) := Lib.hid (HT1.out.alloc _)
  have HQ2 := Lib.hid (HQ1.out.alloc (.cells #[.int .i64 0] 3))
  have HP2 : Hid (Blk (W1.alloc (.cells #[.int .i64 0] 3)) W1.heap.size 3 #[.int .i64 0]) := Lib.hid (Blk.new W1 _ _)
  have HWw2 := Lib.hid (HWw1.out.alloc (by omega) (.cells #[.int .i64 0] 3))
  have HB2 := Lib.hid (HB1.out.keep ((Below.refl _ W1).alloc (Nat.le_refl _) (.cells #[.int .i64 0] 3)))
  have HBY := Lib.hid (byte_put B b _ 40 _ HB2.out (by have := HM.out; show (l0 ++ wordF 10).length + 1 ≤ maxW; simp only [List.length_append, List.length_cons, List.length_nil] at *; omega))
  have hzP : w.heap.size + 1 < W1.heap.size := hz1
  generalize W1.alloc (.cells #[.int .i64 0] 3) = W2 at *
  generalize W1.heap.size = PP at *
  clear c0 c1 c2 c3 c4 c5 c6 c7 c8 c9 cT
  have cT : W2.cell? ⟨w.heap.size, 0, none⟩ = some (.pointer (some ⟨b, 0, none⟩)) := HT2.out.cell 0
  go_wp2_with fail
  refine HBY.out.mono ?_
  rintro e V0 ⟨rfl, hb, hw⟩
  have HV0 : Hid (WS B b w.heap.size (w.heap.size + 1) PP 10 oc f t u lo hi bo op ks.length L Hh K cl ch ck (l0 ++ wordF 10 ++ [40]) w [] V0) := Lib.hid (by
    have hwv := HWw2.out.trans hw
    have hb' : Buf B b (l0 ++ wordF 10 ++ [40]) V0 := hb
    exact ⟨⟨hw.blk HT2.out (by omega) (by decide), hw.blk HQ2.out (by omega) (by decide), HA.out.low.below hwv.below, HA.out.high.below hwv.below, HA.out.pow _ hwv.below, fun V hV => HA.out.pow _ (hwv.below.trans hV), by omega, by omega⟩, by simpa [joinF] using hb', hw.blk HP2.out (by omega) (by decide), hwv, by omega, by omega, by omega, by omega, by omega⟩)
  clear hb hw cT HBY
  obtain ⟨c0, c1, c2, c3, c4, c5, c6, c7, c8, c9⟩ := tenB HV0.out.caps.qB
  have HPT := Lib.hid (ws_part (x := opF op) HV0.out 46 #[.pointer (some ⟨w.heap.size, 0, none⟩), .pointer (some ⟨w.heap.size + 1, 0, none⟩)] (enters_of Tryd.func46 (by kernel_rfl) rfl) (hm_of HM.out (pre_le (all := [opF op, f.data.toList, numsF numT lo] ++ writeL numT ks) (ps := []) (x := opF op) (rest := [f.data.toList, numsF numT lo] ++ writeL numT ks) rfl)) (by simp) (fun W hC hW hb hl => clos3 hC hb (hl_of HM.out (pre_le (all := [opF op, f.data.toList, numsF numT lo] ++ writeL numT ks) (ps := []) (x := opF op) (rest := [f.data.toList, numsF numT lo] ++ writeL numT ks) rfl) hl) hop))
  go_wp2_with fail
  refine HPT.out.mono ?_
  rintro e V1 ⟨rfl, hv⟩
  have HV1 := Lib.hid hv
  clear hv HPT c0 c1 c2 c3 c4 c5 c6 c7 c8 c9 HV0
  obtain ⟨c0, c1, c2, c3, c4, c5, c6, c7, c8, c9⟩ := tenB HV1.out.caps.qB
  have HPT := Lib.hid (ws_part (x := f.data.toList) HV1.out 48 #[.pointer (some ⟨w.heap.size, 0, none⟩), .pointer (some ⟨w.heap.size + 1, 0, none⟩)] (enters_of Tryd.func48 (by kernel_rfl) rfl) (hm_of HM.out (pre_le (all := [opF op, f.data.toList, numsF numT lo] ++ writeL numT ks) (ps := [opF op]) (x := f.data.toList) (rest := [numsF numT lo] ++ writeL numT ks) rfl)) (by simp) (fun W hC hW hb hl => clos4 hC hb (hl_of HM.out (pre_le (all := [opF op, f.data.toList, numsF numT lo] ++ writeL numT ks) (ps := [opF op]) (x := f.data.toList) (rest := [numsF numT lo] ++ writeL numT ks) rfl) hl)))
  go_wp2_with fail
  refine HPT.out.mono ?_
  rintro e V2 ⟨rfl, hv⟩
  have HV2 := Lib.hid hv
  clear hv HPT c0 c1 c2 c3 c4 c5 c6 c7 c8 c9 HV1
  obtain ⟨c0, c1, c2, c3, c4, c5, c6, c7, c8, c9⟩ := tenB HV2.out.caps.qB
  have HPT := Lib.hid (ws_part (x := numsF numT lo) HV2.out 55 #[.pointer (some ⟨w.heap.size, 0, none⟩), .pointer (some ⟨w.heap.size + 1, 0, none⟩)] (enters_of Tryd.func55 (by kernel_rfl) rfl) (hm_of HM.out (pre_le (all := [opF op, f.data.toList, numsF numT lo] ++ writeL numT ks) (ps := [opF op, f.data.toList]) (x := numsF numT lo) (rest := [] ++ writeL numT ks) rfl)) (by simp) (fun W hC hW hb hl => clos10 hC hb (hl_of HM.out (pre_le (all := [opF op, f.data.toList, numsF numT lo] ++ writeL numT ks) (ps := [opF op, f.data.toList]) (x := numsF numT lo) (rest := [] ++ writeL numT ks) rfl) hl) HOK.out.2.2.2.1.1 HOK.out.2.2.2.1.2))
  go_wp2_with fail
  refine HPT.out.mono ?_
  rintro e V3 ⟨rfl, hv⟩
  have HV3 := Lib.hid hv
  clear hv HPT c0 c1 c2 c3 c4 c5 c6 c7 c8 c9 HV2
  obtain ⟨c0, c1, c2, c3, c4, c5, c6, c7, c8, c9⟩ := tenB HV3.out.caps.qB
  go_wp2_with fail
  obtain ⟨_, _, hke, hckA, hmkA, helK⟩ := at_kids HA.out.kids
  injection hke with hk1 _ hk3
  subst hk1 hk3
  have HKS := Lib.hid helK
  clear helK hckA
  have hks : ks.length * 152 ≤ 140737488351232 := by
    cases HA.out.ok with
    | mk _ _ _ _ _ _ _ _ _ hks _ => exact hks
  go_loopw [75] (fun i wr => ∃ k : Nat, k ≤ ks.length ∧ i = .int .i64 k ∧ Hid (WS B b w.heap.size (w.heap.size + 1) PP 10 oc f t u lo hi bo op ks.length L Hh K cl ch ck (l0 ++ wordF 10 ++ [40]) w ([opF op, f.data.toList, numsF numT lo] ++ (writeL numT ks).take k) wr)) (fun i _ => ks.length - (intOf i).toNat)
  case atStart => exact ⟨0, by omega, rfl, HV3⟩
  case round =>
    clear c0 c1 c2 c3 c4 c5 c6 c7 c8 c9 HV3
    obtain ⟨k, hk, rfl, HQ⟩ := hrel
    by_cases hlt : k < ks.length
    · have hlt2 : (k : Int) < (ks.length : Int) := by omega
      obtain ⟨ad, us, hKe, hba, au, lu, cu⟩ := HKS.out k hlt
      subst hKe
      replace cu := cu.keep (w' := wr) (fun p hp => HQ.out.wr.below.cell (by rw [hp, block_of_add]; exact hba))
      have HD := Lib.hid (HA.out.down ks[k] (List.getElem_mem _))
      have hocc := HA.out.occ ks[k] (List.getElem_mem _)
      have HX := Lib.hid (kids_take hlt)
      have HAL := Lib.hid (kids_all (l0 := l0 ++ wordF 10 ++ [40]) (pc := [opF op, f.data.toList, numsF numT lo]) hlt HM.out)
      generalize hq : ks[k] = q at *
      obtain ⟨kd', oc', f', t', u', lo', hi', b', op', ks'⟩ := q
      obtain ⟨vl, vh, vk, rfl, hvl, hvh, hkk⟩ := at_cells au
      obtain ⟨B1, d1, rfl, _⟩ := at_ints hvl
      obtain ⟨B2, d2, rfl, _⟩ := at_ints hvh
      obtain ⟨B3, d3, rfl⟩ := at_sl hkk
      obtain ⟨a0, a1, a2, a3, a4, a5, a6, a7, a8, a9⟩ := ten cu
      have HKID := Lib.hid (ws_kid HQ.out au hocc HD.out (by simp only [List.length_append, List.length_cons, List.length_nil, List.length_take]; omega) HAL.out)
      clear hq au hvl hvh hkk cu lu hocc HD HAL HQ
      go_wp2_with fail
      refine HKID.out.mono ?_
      rintro e w2 ⟨rfl, hv⟩
      have HV : Hid (WS B b w.heap.size (w.heap.size + 1) PP 10 oc f t u lo hi bo op ks.length L Hh (some ad) cl ch ck (l0 ++ wordF 10 ++ [40]) w ([opF op, f.data.toList, numsF numT lo] ++ (writeL numT ks).take (k + 1)) w2) := Lib.hid (by rw [HX.out, ← List.append_assoc]; exact hv)
      clear hv a0 a1 a2 a3 a4 a5 a6 a7 a8 a9 HKID
      go_wp2_with fail
      go_roundw
      case rel => exact ⟨k + 1, by omega, by go_num, HV⟩
      case measure => simp [intOf]; omega
    · obtain rfl : k = ks.length := by omega
      have hall : [opF op, f.data.toList, numsF numT lo] ++ (writeL numT ks).take ks.length = [opF op, f.data.toList, numsF numT lo] ++ writeL numT ks := by rw [List.take_of_length_le (by rw [writeL_eq]; simp)]
      rw [hall] at HQ
      have HBZ := Lib.hid (byte_put B b _ 41 _ HQ.out.buf (end_of HM.out rfl))
      have cT := HQ.out.caps.tB.cell 0
      clear hall
      go_wp2_with fail
      refine HBZ.out.mono ?_
      rintro e W9 ⟨rfl, hb, hw⟩
      have HB9 := Lib.hid hb; have HW9 := Lib.hid (HQ.out.wr.trans hw)
      clear hb hw cT
      go_wp2_with fail
      go_end0
      exact ⟨rfl, by rw [HWF.out]; simpa [List.append_assoc] using HB9.out, HW9.out⟩
end
end Go.Proofs.YtinmiekbhoemjaaDoor.Qry
