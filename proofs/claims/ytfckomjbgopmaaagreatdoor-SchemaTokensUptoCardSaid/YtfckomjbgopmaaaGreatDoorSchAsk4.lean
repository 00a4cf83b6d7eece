/- Contract: what Cells asks last: the value. Written by gen_ask4.py. -/
import Derived.Test.YtfckomjbgopmaaaGreatDoorSchVal
import Derived.Test.YtfckomjbgopmaaaGreatDoorPack19
import Derived.Deep.RegionHeld3
set_option linter.unusedVariables false
namespace Go.Proofs.YtfckomjbgopmaaaGreatDoor.Sch
open Go.RowKit Words Tree SchP Kit Owned AnaP

theorem ValRet.below {r : Option (CT × Nat)} {kd : Int} {t gc gt i : Nat} {cs : Array Value} {w w' w'' : World} {e : Ending} {b : Bool} (h : ValRet r kd t gc gt i cs w e w' b) (hb : Below w'.heap.size w' w'') : ValRet r kd t gc gt i cs w e w'' b := by
  refine ⟨h.ret, h.but.trans (But.of_below hb), fun hbt => ?_, h.no⟩
  obtain ⟨c, n, h1, h2, h3, v, h4, h5⟩ := h.yes hbt
  exact ⟨c, n, h1, h2, h3.below hb h3.lt, v, h4.below hb h4.lt, At.keep (fun p hp => hb.cell hp.2.lt) (fun g hg => ⟨hg.1, hg.2.below hb hg.2.lt⟩) h5⟩
theorem ValRet.from_ {r : Option (CT × Nat)} {kd : Int} {t gc gt i : Nat} {cs : Array Value} {w0 w w' : World} {e : Ending} {b : Bool} (h : ValRet r kd t gc gt i cs w e w' b) (hb : Below w0.heap.size w0 w) : ValRet r kd t gc gt i cs w0 e w' b := by
  refine ⟨h.ret, (But.of_below hb).trans h.but, fun hbt => ?_, h.no⟩
  obtain ⟨c, n, h1, h2, h3, v, h4, h5⟩ := h.yes hbt
  exact ⟨c, n, h1, h2, h3, v, h4, At.keep (fun _ _ => rfl) (fun g hg => ⟨by have := hb.size; omega, hg.2⟩) h5⟩
def AskRet (r : Option (CT × Nat)) (kd : Int) (t gc gt i : Nat) (cs : Array Value) (w : World) (e : Ending) (w' : World) : Prop := ∃ b : Bool, e = .returned (.int .i64 (if b then 0 else 83)) ∧ ValRet r kd t gc gt i cs w (.returned (.bool b)) w' b

set_option maxRecDepth 100000 in
set_option maxHeartbeats 4000000 in
theorem ask4_any (gf ge gc gtb gi gt i t n c : Nat) (f : FT) (e : ET) (k : Nat) (cs : Array Value) (X Y : Option Addr) (z1 z2 : Nat) (w : World)
    (hv : T.At bare w (fun g => g < w.heap.size) (numsT .i64 f.chain) (.slice X f.chain.length z1)) (he : T.At bare w (fun g => g < w.heap.size) (numsT .i64 e.nums) (.slice Y e.nums.length z2))
    (ef : EOk e) (hc : Blk w gc 57 #[.int .i64 k, .string ⟨#[]⟩, .slice none 0 0]) (ht : Blk w gt 3 cs) (hti : cs[i]? = some (.int .i64 t)) (htm : t ≤ 1048576) (hT : FoldNext.Tabs w) (hs : e.text.size < 4294967281) (hO : OrdLib.OTabs w)
    (hf : Blk w gf 54 #[.string f.name, .int .i64 f.kind, .slice X f.chain.length z1, .int .i64 f.scale, .int .i64 f.dims, .bool f.many, .bool f.stored]) (hen : Blk w ge 68 #[.string e.field, .string e.text, .slice Y e.nums.length z2])
    (htx : Blk w gtb 52 #[.slice (some ⟨gt, 0, none⟩) n c]) (hin : i < n) (hn : n ≤ 1048576) (hib0 : Blk w gi 3 #[.int .i64 i]) (hgi : gi ≠ gt) :
    Calls Tryz.prog 48 #[.pointer (some ⟨gf, 0, none⟩), .pointer (some ⟨ge, 0, none⟩), .pointer (some ⟨gc, 0, none⟩), .pointer (some ⟨gtb, 0, none⟩), .pointer (some ⟨gi, 0, none⟩)] w (AskRet (valueF decO runO f k e) f.kind t gc gt i cs w) := by
  have HV := Lib.hid (fun (V : World) (hV : Below w.heap.size w V) => value_any f e k t gc gt i cs V X Y z1 z2 (At.below hv hV (fun g hg => Nat.lt_of_lt_of_le hg hV.size)) (At.below he hV (fun g hg => Nat.lt_of_lt_of_le hg hV.size)) ef (hc.below hV hc.lt) (ht.below hV ht.lt) hti htm (hT.next hV) hs (hO.next hV))
  have HC := Lib.hid (fun (b : Bool) (V : World) => unless_any b 83 V)
  have hbf := Lib.hid hf; have hbe := Lib.hid hen
  have htb := Lib.hid htx; have hib := Lib.hid hib0
  have hnf : ¬ (gf = gc ∨ gf = gt) := by rintro (h | h); exact Blk.ne_ hf hc (by decide) h; exact Blk.ne_ hf ht (by decide) h
  have hne : ¬ (ge = gc ∨ ge = gt) := by rintro (h | h); exact Blk.ne_ hen hc (by decide) h; exact Blk.ne_ hen ht (by decide) h
  have hnt : ¬ (gtb = gc ∨ gtb = gt) := by rintro (h | h); exact Blk.ne_ htx hc (by decide) h; exact Blk.ne_ htx ht (by decide) h
  have hni : ¬ (gi = gc ∨ gi = gt) := by rintro (h | h); exact Blk.ne_ hib0 hc (by decide) h; exact hgi h
  have hin2 : (i : Int) < (n : Int) := by omega
  clear hv he ef hc ht hti htm hT hs hO hf hen htx hib0
  go_enter Tryz.func48, Tryz.ntmps48
  go_upto_region 1 with fail
  refine wp_region_held_drew (S := fun V => But (fun g => g = gc ∨ g = gt) w V) (by kernel_rfl) (But.of_below (Below.refl _ _).drew) (fun hSa0 => ?_)
  refine' wpAnyH_take (i := 0) (v := _) (by simp only [List.getElem?_toArray, List.getElem?_cons_zero]; rfl) (by kernel_rfl) (by kernel_rfl) (by kernel_rfl) (by exact fun _ _ _ h => h) (Or.inl ⟨by rfl, ?hya0⟩) hSa0 ?resta0
  case hya0 => intro V hSw; have BFv := hSw.blk hbf.out hnf; have BEv := hSw.blk hbe.out hne; have t0 : V.cell? ⟨gtb, 0, none⟩ = some (.slice (some ⟨gt, 0, none⟩) n c) := (hSw.blk htb.out hnt).cell 0; have i0 : V.cell? ⟨gi, 0, none⟩ = some (.int .i64 i) := (hSw.blk hib.out hni).cell 0; obtain ⟨p0, p1, p2, p3, p4, p5, p6⟩ := blk7 BFv; have q0 := BEv.cell 0; have q1 : V.cell? ⟨ge, 1, none⟩ = some (.string e.text) := BEv.cell 1; have q2 : V.cell? ⟨ge, 2, none⟩ = some (.slice Y e.nums.length z2) := BEv.cell 2; clear BFv BEv; clear hSw; go_simp; try with_reducible rfl
  try simp only [Act.put, List.setIfInBounds_toArray, List.set_cons_zero, List.set_cons_succ]
  refine' wpAnyH_take (i := 1) (v := _) (by simp only [List.getElem?_toArray, List.getElem?_cons_succ, List.getElem?_cons_zero]; rfl) (by kernel_rfl) (by kernel_rfl) (by kernel_rfl) (by exact fun _ _ _ h => h) (Or.inl ⟨by rfl, ?hya1⟩) hSa0 ?resta1
  case hya1 => intro V hSw; have BFv := hSw.blk hbf.out hnf; have BEv := hSw.blk hbe.out hne; have t0 : V.cell? ⟨gtb, 0, none⟩ = some (.slice (some ⟨gt, 0, none⟩) n c) := (hSw.blk htb.out hnt).cell 0; have i0 : V.cell? ⟨gi, 0, none⟩ = some (.int .i64 i) := (hSw.blk hib.out hni).cell 0; obtain ⟨p0, p1, p2, p3, p4, p5, p6⟩ := blk7 BFv; have q0 := BEv.cell 0; have q1 : V.cell? ⟨ge, 1, none⟩ = some (.string e.text) := BEv.cell 1; have q2 : V.cell? ⟨ge, 2, none⟩ = some (.slice Y e.nums.length z2) := BEv.cell 2; clear BFv BEv; clear hSw; go_simp; try with_reducible rfl
  try simp only [Act.put, List.setIfInBounds_toArray, List.set_cons_zero, List.set_cons_succ]
  refine' wpAnyH_take (i := 2) (v := _) (by simp only [List.getElem?_toArray, List.getElem?_cons_succ, List.getElem?_cons_zero]; rfl) (by kernel_rfl) (by kernel_rfl) (by kernel_rfl) (by exact fun _ _ _ h => h) (Or.inl ⟨by rfl, ?hya2⟩) hSa0 ?resta2
  case hya2 => intro V hSw; have BFv := hSw.blk hbf.out hnf; have BEv := hSw.blk hbe.out hne; have t0 : V.cell? ⟨gtb, 0, none⟩ = some (.slice (some ⟨gt, 0, none⟩) n c) := (hSw.blk htb.out hnt).cell 0; have i0 : V.cell? ⟨gi, 0, none⟩ = some (.int .i64 i) := (hSw.blk hib.out hni).cell 0; obtain ⟨p0, p1, p2, p3, p4, p5, p6⟩ := blk7 BFv; have q0 := BEv.cell 0; have q1 : V.cell? ⟨ge, 1, none⟩ = some (.string e.text) := BEv.cell 1; have q2 : V.cell? ⟨ge, 2, none⟩ = some (.slice Y e.nums.length z2) := BEv.cell 2; clear BFv BEv; clear hSw; go_simp; try with_reducible rfl
  try simp only [Act.put, List.setIfInBounds_toArray, List.set_cons_zero, List.set_cons_succ]
  refine' wpAnyH_take (i := 3) (v := _) (by simp only [List.getElem?_toArray, List.getElem?_cons_succ, List.getElem?_cons_zero]; rfl) (by kernel_rfl) (by kernel_rfl) (by kernel_rfl) (by exact fun _ _ _ h => h) (Or.inl ⟨by rfl, ?hya3⟩) hSa0 ?resta3
  case hya3 => intro V hSw; have BFv := hSw.blk hbf.out hnf; have BEv := hSw.blk hbe.out hne; have t0 : V.cell? ⟨gtb, 0, none⟩ = some (.slice (some ⟨gt, 0, none⟩) n c) := (hSw.blk htb.out hnt).cell 0; have i0 : V.cell? ⟨gi, 0, none⟩ = some (.int .i64 i) := (hSw.blk hib.out hni).cell 0; obtain ⟨p0, p1, p2, p3, p4, p5, p6⟩ := blk7 BFv; have q0 := BEv.cell 0; have q1 : V.cell? ⟨ge, 1, none⟩ = some (.string e.text) := BEv.cell 1; have q2 : V.cell? ⟨ge, 2, none⟩ = some (.slice Y e.nums.length z2) := BEv.cell 2; clear BFv BEv; clear hSw; go_simp; try with_reducible rfl
  try simp only [Act.put, List.setIfInBounds_toArray, List.set_cons_zero, List.set_cons_succ]
  refine' wpAnyH_take (i := 4) (v := _) (by simp only [List.getElem?_toArray, List.getElem?_cons_succ, List.getElem?_cons_zero]; rfl) (by kernel_rfl) (by kernel_rfl) (by kernel_rfl) (by exact fun _ _ _ h => h) (Or.inl ⟨by rfl, ?hya4⟩) hSa0 ?resta4
  case hya4 => intro V hSw; clear hSw; go_simp; try with_reducible rfl
  try simp only [Act.put, List.setIfInBounds_toArray, List.set_cons_zero, List.set_cons_succ]
  refine wpAnyH_ready (rs := [5]) (by kernel_rfl) (by simp) ?_
  refine' AllReadyH.cons (by simp only [List.getElem?_toArray, List.getElem?_cons_succ, List.getElem?_cons_zero]; rfl) (fun K hK => ?_) AllReadyH.nil
  go_simp
  refine (HV.out _ (Below.refl _ _).drew).mono ?_
  rintro e' V1 ⟨b, hr⟩
  obtain rfl := hr.ret
  have HR := Lib.hid (hr.from_ (w0 := w) (Below.refl _ _).drew)
  clear hr
  go_simp
  refine hK.out _ _ HR.out.but (fun hSa1 => ?_)
  try simp only [Act.put, List.setIfInBounds_toArray, List.set_cons_zero, List.set_cons_succ]
  refine wpAnyH_ready (rs := [6]) (by kernel_rfl) (by simp) ?_
  refine' AllReadyH.cons (by simp only [List.getElem?_toArray, List.getElem?_cons_succ, List.getElem?_cons_zero]; rfl) (fun K hK => ?_) AllReadyH.nil
  go_simp
  obtain ⟨m, hm⟩ : ∃ m : Int, (if b = true then (0 : Int) else 83) = m := ⟨_, rfl⟩
  have hcb := HC.out b V1
  rw [hm] at hcb
  have HM := Lib.hid hm
  clear hm
  refine hcb.mono ?_
  rintro e' V2 ⟨rfl, q⟩
  have HR2 := Lib.hid (HR.out.below q)
  clear q
  go_simp
  refine hK.out _ _ HR2.out.but (fun hSa2 => ?_)
  try simp only [Act.put, List.setIfInBounds_toArray, List.set_cons_zero, List.set_cons_succ]
  refine' wpAnyH_take (i := 7) (v := _) (by simp only [List.getElem?_toArray, List.getElem?_cons_succ, List.getElem?_cons_zero]; rfl) (by kernel_rfl) (by kernel_rfl) (by kernel_rfl) (by exact fun _ _ _ h => h) (Or.inl ⟨by rfl, ?hy7⟩) hSa2 ?rest7
  case hy7 => intro V hSw; clear hSw; go_simp; try with_reducible rfl
  try simp only [Act.put, List.setIfInBounds_toArray, List.set_cons_zero, List.set_cons_succ]
  refine wpAnyH_done (by kernel_rfl) ?_ _
  go_wp2_with fail
  go_ret
  exact ⟨b, by rw [HM.out]; rfl, HR2.out⟩
end Go.Proofs.YtfckomjbgopmaaaGreatDoor.Sch
