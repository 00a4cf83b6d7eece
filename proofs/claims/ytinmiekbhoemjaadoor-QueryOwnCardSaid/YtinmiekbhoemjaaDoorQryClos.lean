/- Contracts: the closures of query.write that write a part. Written by gen_clos.py. -/
import Derived.Test.YtinmiekbhoemjaaDoorPack39
import Derived.Test.YtinmiekbhoemjaaDoorPack20
import Derived.Test.YtinmiekbhoemjaaDoorPack17
import Derived.Deep.RegionHeld3
set_option linter.unusedVariables false
namespace Go.Proofs.YtinmiekbhoemjaaDoor.Qry
open Go.RowKit Words Tree QryP Kit

theorem Wr.drew {B : Nat} {S : Nat → Prop} {w w' : World} (h : Wr B S w w') : Wr B S w w'.drew := ⟨h.below.drew, h.kept⟩
/-- What the closures of write find: the builder's address in T, the part in Q. -/
structure Caps (B b T Q : Nat) (kd oc : Int) (f t u : ByteArray) (lo hi : List Int) (bo op : Int) (n : Nat) (L Hh K : Option Addr) (cl ch ck : Nat) (w : World) : Prop where
  tB : Blk w T 42 #[.pointer (some ⟨b, 0, none⟩)]
  qB : Blk w Q 25 #[.int .i64 kd, .int .i64 oc, .string f, .string t, .string u, .slice L lo.length cl, .slice Hh hi.length ch, .int .i64 bo, .int .i64 op, .slice K n ck]
  low : Reads w B 1 L lo.length (lo.map (Value.int .i64))
  high : Reads w B 1 Hh hi.length (hi.map (Value.int .i64))
  pow : Lib.TabIs Tryd.prog w "internal/strconv.uint64pow10" .u64 Lib.pow10Tab
  powB : ∀ W, Below B w W → Lib.TabIs Tryd.prog W "internal/strconv.uint64pow10" .u64 Lib.pow10Tab
  tb : T ≠ b
  qb : Q ≠ b
theorem Caps.wr {B b T Q : Nat} {S : Nat → Prop} {kd oc : Int} {f t u : ByteArray} {lo hi : List Int} {bo op : Int} {n : Nat} {L Hh K : Option Addr} {cl ch ck : Nat} {w W : World} (h : Caps B b T Q kd oc f t u lo hi bo op n L Hh K cl ch ck w) (hw : Wr B S w W) (hT : ¬ S T) (hQ : ¬ S Q) : Caps B b T Q kd oc f t u lo hi bo op n L Hh K cl ch ck W :=
  ⟨hw.blk h.tB hT (by decide), hw.blk h.qB hQ (by decide), h.low.below hw.below, h.high.below hw.below, h.powB W hw.below, fun V hV => h.powB V (hw.below.trans hV), h.tb, h.qb⟩
section
variable {B b T Q : Nat} {kd oc : Int} {f t u : ByteArray} {lo hi : List Int} {bo op : Int} {n : Nat} {L Hh K : Option Addr} {cl ch ck : Nat} {w : World} {l : List UInt8}
set_option maxRecDepth 100000 in
set_option maxHeartbeats 4000000 in
theorem clos4 (hc : Caps B b T Q kd oc f t u lo hi bo op n L Hh K cl ch ck w) (h : Buf B b l w) (hl : l.length + (f.data.toList).length ≤ maxW) :
    Calls Tryd.prog 48 #[.pointer (some ⟨T, 0, none⟩), .pointer (some ⟨Q, 0, none⟩)] w (PutU B b l (f.data.toList) w) := by
  have c0 : w.cell? ⟨T, 0, none⟩ = some (.pointer (some ⟨b, 0, none⟩)) := hc.tB.cell 0
  have c1 : w.cell? ⟨Q, 2, none⟩ = some (.string f) := hc.qB.cell 2
  have HS := Lib.hid (string_put B b l f w h hl)
  clear hc h hl
  go_enter Tryd.func48, Tryd.ntmps48
  go_wp2_with fail
  refine HS.out.mono ?_
  rintro e w2 ⟨rfl, hb, hw⟩
  have HB2 := Lib.hid hb; have HW2 := Lib.hid hw
  clear hb hw
  go_wp2_with fail
  go_end0
  exact ⟨rfl, HB2.out, HW2.out⟩
set_option maxRecDepth 100000 in
set_option maxHeartbeats 4000000 in
theorem clos5 (hc : Caps B b T Q kd oc f t u lo hi bo op n L Hh K cl ch ck w) (h : Buf B b l w) (hl : l.length + (quoteF t).length ≤ maxW) (hs : t.size ≤ 140737488351232) :
    Calls Tryd.prog 49 #[.pointer (some ⟨T, 0, none⟩), .pointer (some ⟨Q, 0, none⟩)] w (PutU B b l (quoteF t) w) := by
  have c0 : w.cell? ⟨T, 0, none⟩ = some (.pointer (some ⟨b, 0, none⟩)) := hc.tB.cell 0
  have c1 : w.cell? ⟨Q, 3, none⟩ = some (.string t) := hc.qB.cell 3
  have HS := Lib.hid (quote_any B b l t w hs h hl)
  clear hc h hl
  go_enter Tryd.func49, Tryd.ntmps49
  go_wp2_with fail
  refine HS.out.mono ?_
  rintro e w2 ⟨rfl, hb, hw⟩
  have HB2 := Lib.hid hb; have HW2 := Lib.hid hw
  clear hb hw
  go_wp2_with fail
  go_end0
  exact ⟨rfl, HB2.out, HW2.out⟩
set_option maxRecDepth 100000 in
set_option maxHeartbeats 4000000 in
theorem clos6 (hc : Caps B b T Q kd oc f t u lo hi bo op n L Hh K cl ch ck w) (h : Buf B b l w) (hl : l.length + (quoteF u).length ≤ maxW) (hs : u.size ≤ 140737488351232) :
    Calls Tryd.prog 51 #[.pointer (some ⟨T, 0, none⟩), .pointer (some ⟨Q, 0, none⟩)] w (PutU B b l (quoteF u) w) := by
  have c0 : w.cell? ⟨T, 0, none⟩ = some (.pointer (some ⟨b, 0, none⟩)) := hc.tB.cell 0
  have c1 : w.cell? ⟨Q, 4, none⟩ = some (.string u) := hc.qB.cell 4
  have HS := Lib.hid (quote_any B b l u w hs h hl)
  clear hc h hl
  go_enter Tryd.func51, Tryd.ntmps51
  go_wp2_with fail
  refine HS.out.mono ?_
  rintro e w2 ⟨rfl, hb, hw⟩
  have HB2 := Lib.hid hb; have HW2 := Lib.hid hw
  clear hb hw
  go_wp2_with fail
  go_end0
  exact ⟨rfl, HB2.out, HW2.out⟩
set_option maxRecDepth 100000 in
set_option maxHeartbeats 4000000 in
theorem clos7 (hc : Caps B b T Q kd oc f t u lo hi bo op n L Hh K cl ch ck w) (h : Buf B b l w) (hl : l.length + (quoteF t).length ≤ maxW) (hs : t.size ≤ 140737488351232) :
    Calls Tryd.prog 52 #[.pointer (some ⟨T, 0, none⟩), .pointer (some ⟨Q, 0, none⟩)] w (PutU B b l (quoteF t) w) := by
  have c0 : w.cell? ⟨T, 0, none⟩ = some (.pointer (some ⟨b, 0, none⟩)) := hc.tB.cell 0
  have c1 : w.cell? ⟨Q, 3, none⟩ = some (.string t) := hc.qB.cell 3
  have HS := Lib.hid (quote_any B b l t w hs h hl)
  clear hc h hl
  go_enter Tryd.func52, Tryd.ntmps52
  go_wp2_with fail
  refine HS.out.mono ?_
  rintro e w2 ⟨rfl, hb, hw⟩
  have HB2 := Lib.hid hb; have HW2 := Lib.hid hw
  clear hb hw
  go_wp2_with fail
  go_end0
  exact ⟨rfl, HB2.out, HW2.out⟩
set_option maxRecDepth 100000 in
set_option maxHeartbeats 4000000 in
theorem clos8 (hc : Caps B b T Q kd oc f t u lo hi bo op n L Hh K cl ch ck w) (h : Buf B b l w) (hl : l.length + (numsF numT lo).length ≤ maxW) (hs : lo.length * 8 ≤ 140737488351232) (hI : ∀ z ∈ lo, I64 z) :
    Calls Tryd.prog 53 #[.pointer (some ⟨T, 0, none⟩), .pointer (some ⟨Q, 0, none⟩)] w (PutU B b l (numsF numT lo) w) := by
  have c0 : w.cell? ⟨T, 0, none⟩ = some (.pointer (some ⟨b, 0, none⟩)) := hc.tB.cell 0
  have c1 : w.cell? ⟨Q, 5, none⟩ = some (.slice L lo.length cl) := hc.qB.cell 5
  have HS := Lib.hid (numbers_any B b B l L cl lo w (fun W hW => hc.low.below hW.below) hs hI h hl (fun W hW => hc.powB W hW.below))
  clear hc h hl
  go_enter Tryd.func53, Tryd.ntmps53
  go_wp2_with fail
  refine HS.out.mono ?_
  rintro e w2 ⟨rfl, hb, hw⟩
  have HB2 := Lib.hid hb; have HW2 := Lib.hid hw
  clear hb hw
  go_wp2_with fail
  go_end0
  exact ⟨rfl, HB2.out, HW2.out⟩
set_option maxRecDepth 100000 in
set_option maxHeartbeats 4000000 in
theorem clos9 (hc : Caps B b T Q kd oc f t u lo hi bo op n L Hh K cl ch ck w) (h : Buf B b l w) (hl : l.length + (numsF numT hi).length ≤ maxW) (hs : hi.length * 8 ≤ 140737488351232) (hI : ∀ z ∈ hi, I64 z) :
    Calls Tryd.prog 54 #[.pointer (some ⟨T, 0, none⟩), .pointer (some ⟨Q, 0, none⟩)] w (PutU B b l (numsF numT hi) w) := by
  have c0 : w.cell? ⟨T, 0, none⟩ = some (.pointer (some ⟨b, 0, none⟩)) := hc.tB.cell 0
  have c1 : w.cell? ⟨Q, 6, none⟩ = some (.slice Hh hi.length ch) := hc.qB.cell 6
  have HS := Lib.hid (numbers_any B b B l Hh ch hi w (fun W hW => hc.high.below hW.below) hs hI h hl (fun W hW => hc.powB W hW.below))
  clear hc h hl
  go_enter Tryd.func54, Tryd.ntmps54
  go_wp2_with fail
  refine HS.out.mono ?_
  rintro e w2 ⟨rfl, hb, hw⟩
  have HB2 := Lib.hid hb; have HW2 := Lib.hid hw
  clear hb hw
  go_wp2_with fail
  go_end0
  exact ⟨rfl, HB2.out, HW2.out⟩
set_option maxRecDepth 100000 in
set_option maxHeartbeats 4000000 in
theorem clos10 (hc : Caps B b T Q kd oc f t u lo hi bo op n L Hh K cl ch ck w) (h : Buf B b l w) (hl : l.length + (numsF numT lo).length ≤ maxW) (hs : lo.length * 8 ≤ 140737488351232) (hI : ∀ z ∈ lo, I64 z) :
    Calls Tryd.prog 55 #[.pointer (some ⟨T, 0, none⟩), .pointer (some ⟨Q, 0, none⟩)] w (PutU B b l (numsF numT lo) w) := by
  have c0 : w.cell? ⟨T, 0, none⟩ = some (.pointer (some ⟨b, 0, none⟩)) := hc.tB.cell 0
  have c1 : w.cell? ⟨Q, 5, none⟩ = some (.slice L lo.length cl) := hc.qB.cell 5
  have HS := Lib.hid (numbers_any B b B l L cl lo w (fun W hW => hc.low.below hW.below) hs hI h hl (fun W hW => hc.powB W hW.below))
  clear hc h hl
  go_enter Tryd.func55, Tryd.ntmps55
  go_wp2_with fail
  refine HS.out.mono ?_
  rintro e w2 ⟨rfl, hb, hw⟩
  have HB2 := Lib.hid hb; have HW2 := Lib.hid hw
  clear hb hw
  go_wp2_with fail
  go_end0
  exact ⟨rfl, HB2.out, HW2.out⟩
set_option maxRecDepth 100000 in
set_option maxHeartbeats 4000000 in
theorem clos2 (hc : Caps B b T Q kd oc f t u lo hi bo op n L Hh K cl ch ck w) (h : Buf B b l w) (hl : l.length + (numT bo).length ≤ maxW) (hI : I64 bo) :
    Calls Tryd.prog 44 #[.pointer (some ⟨T, 0, none⟩), .pointer (some ⟨Q, 0, none⟩)] w (PutU B b l (numT bo) w) := by
  have c0 : w.cell? ⟨T, 0, none⟩ = some (.pointer (some ⟨b, 0, none⟩)) := hc.tB.cell 0
  have c1 : w.cell? ⟨Q, 7, none⟩ = some (.int .i64 bo) := hc.qB.cell 7
  have hBw : B ≤ w.heap.size := by have := h.ge; have := h.size; omega
  have hw0 : Wr B (fun g => g = b) w (w.alloc (.cells #[.int .i64 bo] 2)) := (Wr.refl _ _ _).alloc hBw _
  have hbn : w.heap.size ≠ b := by have := h.size; omega
  have HS := Lib.hid (numbers_any B b (w.heap.size + 1) l (some ⟨w.heap.size, 0, none⟩) 1 [bo] (w.alloc (.cells #[.int .i64 bo] 2)) (fun W hW => ⟨rfl, fun _ => ⟨_, rfl, Nat.lt_succ_self _, World.news_of_block (hW.blk (Blk.new w _ _) hbn (by decide))⟩⟩) (by simp) (by simpa using hI) (h.keep ((Below.refl _ _).alloc (Nat.le_refl _) _)) hl (fun W hW => hc.powB W (hw0.trans hW).below))
  have HW0 := Lib.hid hw0
  clear hc h hl hw0 hbn hBw
  go_enter Tryd.func44, Tryd.ntmps44
  go_wp2_with fail
  refine HS.out.mono ?_
  rintro e w2 ⟨rfl, hb, hw⟩
  have HB2 := Lib.hid hb; have HW2 := Lib.hid (HW0.out.trans hw)
  clear hb hw
  go_wp2_with fail
  go_end0
  exact ⟨rfl, HB2.out, HW2.out⟩
set_option maxRecDepth 100000 in
set_option maxHeartbeats 4000000 in
theorem clos3 (hc : Caps B b T Q kd oc f t u lo hi bo op n L Hh K cl ch ck w) (h : Buf B b l w) (hl : l.length + (opF op).length ≤ maxW) (hop : 1 ≤ op ∧ op ≤ 3) :
    Calls Tryd.prog 46 #[.pointer (some ⟨T, 0, none⟩), .pointer (some ⟨Q, 0, none⟩)] w (PutU B b l (opF op) w) := by
  have c0 : w.cell? ⟨T, 0, none⟩ = some (.pointer (some ⟨b, 0, none⟩)) := hc.tB.cell 0
  have HC := Lib.hid hc
  have HOP := Lib.hid hop
  have HH := Lib.hid h
  have HL := Lib.hid hl
  clear hc h hl hop c0
  go_enter Tryd.func46, Tryd.ntmps46
  refine wp_region_held_drew (S := fun V => Wr B (fun g => g = b) w V) (by kernel_rfl) ((Wr.refl B _ w).drew) (fun hSd0 => ?_)
  refine' wpAnyH_take (i := 0) (v := _) (by simp only [List.getElem?_toArray, List.getElem?_cons_zero]; rfl) (by kernel_rfl) (by kernel_rfl) (by kernel_rfl) (by exact fun _ _ _ h => h) (Or.inl ⟨by rfl, ?hyd0⟩) hSd0 ?restd0
  case hyd0 => intro V hSw; have fq := (hSw.blk HC.out.tB HC.out.tb (by decide)).cell 0; clear hSw; go_simp; try with_reducible rfl
  try simp only [Act.put, List.setIfInBounds_toArray, List.set_cons_zero, List.set_cons_succ]
  refine' wpAnyH_take (i := 1) (v := _) (by simp only [List.getElem?_toArray, List.getElem?_cons_succ, List.getElem?_cons_zero]; rfl) (by kernel_rfl) (by kernel_rfl) (by kernel_rfl) (by exact fun _ _ _ h => h) (Or.inl ⟨by rfl, ?hyd1⟩) hSd0 ?restd1
  case hyd1 => intro V hSw; clear hSw; go_simp; try with_reducible rfl
  try simp only [Act.put, List.setIfInBounds_toArray, List.set_cons_zero, List.set_cons_succ]
  refine' wpAnyH_take (i := 2) (v := _) (by simp only [List.getElem?_toArray, List.getElem?_cons_succ, List.getElem?_cons_zero]; rfl) (by kernel_rfl) (by kernel_rfl) (by kernel_rfl) (by exact fun _ _ _ h => h) (Or.inl ⟨by rfl, ?hyd2⟩) hSd0 ?restd2
  case hyd2 => intro V hSw; have fq := (hSw.blk HC.out.qB HC.out.qb (by decide)).cell 8; clear hSw; go_simp; try with_reducible rfl
  try simp only [Act.put, List.setIfInBounds_toArray, List.set_cons_zero, List.set_cons_succ]
  refine wpAnyH_ready (rs := [3]) (by kernel_rfl) (by simp) ?_
  refine' AllReadyH.cons (by simp only [List.getElem?_toArray, List.getElem?_cons_succ, List.getElem?_cons_zero]; rfl) (fun K hK => ?_) AllReadyH.nil
  go_simp
  refine (op_any op _ HOP.out).mono ?_
  rintro e V ⟨rfl, rfl⟩
  go_simp
  refine hK.out _ _ hSd0 (fun hSd1 => ?_)
  clear hK K
  try simp only [Act.put, List.setIfInBounds_toArray, List.set_cons_zero, List.set_cons_succ]
  refine wpAnyH_ready (rs := [4]) (by kernel_rfl) (by simp) ?_
  refine' AllReadyH.cons (by simp only [List.getElem?_toArray, List.getElem?_cons_succ, List.getElem?_cons_zero]; rfl) (fun K hK => ?_) AllReadyH.nil
  go_simp
  refine (string_put B b l (str (opF op)) _ (HH.out.keep (Below.refl _ w).drew) HL.out).mono ?_
  rintro e V ⟨rfl, hb, hw⟩
  have HB2 := Lib.hid hb; have HW2 := Lib.hid (((Wr.refl B (fun g => g = b) w).drew).trans hw)
  clear hb hw
  go_simp
  refine hK.out _ _ HW2.out (fun hSd2 => ?_)
  clear hK K
  try simp only [Act.put, List.setIfInBounds_toArray, List.set_cons_zero, List.set_cons_succ]
  refine wpAnyH_done (by kernel_rfl) ?_ _
  clear hSd0 hSd1 hSd2
  go_wp2_with fail
  go_end0
  exact ⟨rfl, HB2.out, HW2.out⟩
end
end Go.Proofs.YtinmiekbhoemjaaDoor.Qry
