/- Contract: what Cells asks last: the value. Written by gen_ask4.py. Contracts: a field is found by its name: the document's answer, the program's closure. Contract: the program's Find. Contract: the program's Check of a schema. -/
import Derived.Test.YtfckomjbgopmaaaGreatDoorSchVal
import Derived.Test.YtfckomjbgopmaaaGreatDoorPack20
import Derived.Deep.RegionHeld3
import Derived.Test.YtfckomjbgopmaaaGreatDoorPack12
import Derived.Test.YtfckomjbgopmaaaGreatDoorSchMay
section
set_option linter.unusedVariables false
namespace Go.Proofs.YtfckomjbgopmaaaGreatDoor.Sch
open Go.RowKit Words Tree SchP Kit Owned AnaP

theorem ValRet.below {r : Option (CT × Nat)} {kd : Int} {t gc gt i : Nat} {cs : Array Value} {w w' w'' : World} {e : Ending} {b : Bool} (h : ValRet r kd t gc gt i cs w e w' b) (hb : Below w'.heap.size w' w'') : ValRet r kd t gc gt i cs w e w'' b := by
  refine ⟨h.ret, h.but.trans (But.of_below hb), fun hbt => ?_, h.no⟩
  obtain ⟨c, n, h1, h2, h3, v, h4, h5⟩ := h.yes hbt
  exact ⟨c, n, h1, h2, h3.below hb h3.lt, v, h4.below hb h4.lt, At.keep (fun p hp => hb.cell hp.2.lt) (fun g hg => ⟨hg.1, hg.2.below hb hg.2.lt⟩) h5⟩
theorem ValRet.from_ {r : Option (CT × Nat)} {kd : Int} {t gc gt i : Nat} {cs : Array Value} {w0 w w' : World} {e : Ending} {b : Bool} (h : ValRet r kd t gc gt i cs w e w' b) (hb : Below w0.heap.size w0 w) : ValRet r kd t gc gt i cs w0 e w' b := by
  refine ⟨h.ret, (But.of_below hb).trans h.but, fun hbt => ?_, h.no⟩
  obtain ⟨c, n, h1, h2, h3, v, h4, h5⟩ := h.yes hbt
  exact ⟨c, n, h1, h2, h3, v, h4, At.keep (fun _ _ => rfl) (fun g hg => ⟨by have := hb.size; omega, hg.2⟩) h5⟩
def AskRet (r : Option (CT × Nat)) (kd : Int) (t gc gt i : Nat) (cs : Array Value) (w : World) (e : Ending) (w' : World) : Prop := ∃ b : Bool, e = .returned (.int .i64 (if b then 0 else 83)) ∧ ValRet r kd t gc gt i cs w (.returned (.bool b)) w' b

set_option maxRecDepth 100000 in
set_option maxHeartbeats 4000000 in
theorem ask4_any (gf ge gc gtb gi gt i t n c : Nat) (f : FT) (e : ET) (k : Nat) (cs : Array Value) (X Y : Option Addr) (z1 z2 : Nat) (w : World)
    (hv : T.At bare w (fun g => g < w.heap.size) (numsT .i64 f.chain) (.slice X f.chain.length z1)) (he : T.At bare w (fun g => g < w.heap.size) (numsT .i64 e.nums) (.slice Y e.nums.length z2))
    (ef : EOk e) (hc : Blk w gc 57 #[.int .i64 k, .string ⟨#[]⟩, .slice none 0 0]) (ht : Blk w gt 3 cs) (hti : cs[i]? = some (.int .i64 t)) (htm : t ≤ 1048576) (hT : FoldNext.Tabs w) (hs : e.text.size < 4294967281) (hO : OrdLib.OTabs w)
    (hf : Blk w gf 54 #[.string f.name, .int .i64 f.kind, .slice X f.chain.length z1, .int .i64 f.scale, .int .i64 f.dims, .bool f.many, .bool f.stored]) (hen : Blk w ge 68 #[.string e.field, .string e.text, .slice Y e.nums.length z2])
    (htx : Blk w gtb 52 #[.slice (some ⟨gt, 0, none⟩) n c]) (hin : i < n) (hn : n ≤ 1048576) (hib0 : Blk w gi 3 #[.int .i64 i]) (hgi : gi ≠ gt) :
    Calls Tryz.prog 48 #[.pointer (some ⟨gf, 0, none⟩), .pointer (some ⟨ge, 0, none⟩), .pointer (some ⟨gc, 0, none⟩), .pointer (some ⟨gtb, 0, none⟩), .pointer (some ⟨gi, 0, none⟩)] w (AskRet (valueF decO runO f k e) f.kind t gc gt i cs w) := by
  have HV := Lib.hid (fun (V : World) (hV : Below w.heap.size w V) => value_any f e k t gc gt i cs V X Y z1 z2 (At.below hv hV (fun g hg => Nat.lt_of_lt_of_le hg hV.size)) (At.below he hV (fun g hg => Nat.lt_of_lt_of_le hg hV.size)) ef (hc.below hV hc.lt) (ht.below hV ht.lt) hti htm (hT.next hV) hs (hO.next hV))
  have HC := Lib.hid (fun (b : Bool) (V : World) => unless_any b 83 V)
  have hbf := Lib.hid hf; have hbe := Lib.hid hen
  have htb := Lib.hid htx; have hib := Lib.hid hib0
  have hnf : ¬ (gf = gc ∨ gf = gt) := by rintro (h | h); exact Blk.ne_ hf hc (by decide) h; exact Blk.ne_ hf ht (by decide) h
  have hne : ¬ (ge = gc ∨ ge = gt) := by rintro (h | h); exact Blk.ne_ hen hc (by decide) h; exact Blk.ne_ hen ht (by decide) h
  have hnt : ¬ (gtb = gc ∨ gtb = gt) := by rintro (h | h); exact Blk.ne_ htx hc (by decide) h; exact Blk.ne_ htx ht (by decide) h
  have hni : ¬ (gi = gc ∨ gi = gt) := by rintro (h | h); exact Blk.ne_ hib0 hc (by decide) h; exact hgi h
  have hin2 : (i : Int) < (n : Int) := by omega
  clear hv he ef hc ht hti htm hT hs hO hf hen htx hib0
  go_enter Tryz.func48, Tryz.ntmps48
  go_upto_region 1 with fail
  refine wp_region_held_drew (S := fun V => But (fun g => g = gc ∨ g = gt) w V) (by kernel_rfl) (But.of_below (Below.refl _ _).drew) (fun hSa0 => ?_)
  refine' wpAnyH_take (i := 0) (v := _) (by simp only [List.getElem?_toArray, List.getElem?_cons_zero]; rfl) (by kernel_rfl) (by kernel_rfl) (by kernel_rfl) (by exact fun _ _ _ h => h) (Or.inl ⟨by rfl, ?hya0⟩) hSa0 ?resta0
  case hya0 => intro V hSw; have BFv := hSw.blk hbf.out hnf; have BEv := hSw.blk hbe.out hne; have t0 : V.cell? ⟨gtb, 0, none⟩ = some (.slice (some ⟨gt, 0, none⟩) n c) := (hSw.blk htb.out hnt).cell 0; have i0 : V.cell? ⟨gi, 0, none⟩ = some (.int .i64 i) := (hSw.blk hib.out hni).cell 0; obtain ⟨p0, p1, p2, p3, p4, p5, p6⟩ := blk7 BFv; have q0 := BEv.cell 0; have q1 : V.cell? ⟨ge, 1, none⟩ = some (.string e.text) := BEv.cell 1; have q2 : V.cell? ⟨ge, 2, none⟩ = some (.slice Y e.nums.length z2) := BEv.cell 2; clear BFv BEv; clear hSw; go_simp; try with_reducible rfl
  try simp only [Act.put, List.setIfInBounds_toArray, List.set_cons_zero, List.set_cons_succ]
  refine' wpAnyH_take (i := 1) (v := _) (by simp only [List.getElem?_toArray, List.getElem?_cons_succ, List.getElem?_cons_zero]; rfl) (by kernel_rfl) (by kernel_rfl) (by kernel_rfl) (by exact fun _ _ _ h => h) (Or.inl ⟨by rfl, ?hya1⟩) hSa0 ?resta1
  case hya1 => intro V hSw; have BFv := hSw.blk hbf.out hnf; have BEv := hSw.blk hbe.out hne; have t0 : V.cell? ⟨gtb, 0, none⟩ = some (.slice (some ⟨gt, 0, none⟩) n c) := (hSw.blk htb.out hnt).cell 0; have i0 : V.cell? ⟨gi, 0, none⟩ = some (.int .i64 i) := (hSw.blk hib.out hni).cell 0; obtain ⟨p0, p1, p2, p3, p4, p5, p6⟩ := blk7 BFv; have q0 := BEv.cell 0; have q1 : V.cell? ⟨ge, 1, none⟩ = some (.string e.text) := BEv.cell 1; have q2 : V.cell? ⟨ge, 2, none⟩ = some (.slice Y e.nums.length z2) := BEv.cell 2; clear BFv BEv; clear hSw; go_simp; try with_reducible rfl
  try simp only [Act.put, List.setIfInBounds_toArray, List.set_cons_zero, List.set_cons_succ]
  refine' wpAnyH_take (i := 2) (v := _) (by simp only [List.getElem?_toArray, List.getElem?_cons_succ, List.getElem?_cons_zero]; rfl) (by kernel_rfl) (by kernel_rfl) (by kernel_rfl) (by exact fun _ _ _ h => h) (Or.inl ⟨by rfl, ?hya2⟩) hSa0 ?resta2
  case hya2 => intro V hSw; have BFv := hSw.blk hbf.out hnf; have BEv := hSw.blk hbe.out hne; have t0 : V.cell? ⟨gtb, 0, none⟩ = some (.slice (some ⟨gt, 0, none⟩) n c) := (hSw.blk htb.out hnt).cell 0; have i0 : V.cell? ⟨gi, 0, none⟩ = some (.int .i64 i) := (hSw.blk hib.out hni).cell 0; obtain ⟨p0, p1, p2, p3, p4, p5, p6⟩ := blk7 BFv; have q0 := BEv.cell 0; have q1 : V.cell? ⟨ge, 1, none⟩ = some (.string e.text) := BEv.cell 1; have q2 : V.cell? ⟨ge, 2, none⟩ = some (.slice Y e.nums.length z2) := BEv.cell 2; clear BFv BEv; clear hSw; go_simp; try with_reducible rfl
  try simp only [Act.put, List.setIfInBounds_toArray, List.set_cons_zero, List.set_cons_succ]
  refine' wpAnyH_take (i := 3) (v := _) (by simp only [List.getElem?_toArray, List.getElem?_cons_succ, List.getElem?_cons_zero]; rfl) (by kernel_rfl) (by kernel_rfl) (by kernel_rfl) (by exact fun _ _ _ h => h) (Or.inl ⟨by rfl, ?hya3⟩) hSa0 ?resta3
  case hya3 => intro V hSw; have BFv := hSw.blk hbf.out hnf; have BEv := hSw.blk hbe.out hne; have t0 : V.cell? ⟨gtb, 0, none⟩ = some (.slice (some ⟨gt, 0, none⟩) n c) := (hSw.blk htb.out hnt).cell 0; have i0 : V.cell? ⟨gi, 0, none⟩ = some (.int .i64 i) := (hSw.blk hib.out hni).cell 0; obtain ⟨p0, p1, p2, p3, p4, p5, p6⟩ := blk7 BFv; have q0 := BEv.cell 0; have q1 : V.cell? ⟨ge, 1, none⟩ = some (.string e.text) := BEv.cell 1; have q2 : V.cell? ⟨ge, 2, none⟩ = some (.slice Y e.nums.length z2) := BEv.cell 2; clear BFv BEv; clear hSw; go_simp; try with_reducible rfl
  try simp only [Act.put, List.setIfInBounds_toArray, List.set_cons_zero, List.set_cons_succ]
  refine' wpAnyH_take (i := 4) (v := _) (by simp only [List.getElem?_toArray, List.getElem?_cons_succ, List.getElem?_cons_zero]; rfl) (by kernel_rfl) (by kernel_rfl) (by kernel_rfl) (by exact fun _ _ _ h => h) (Or.inl ⟨by rfl, ?hya4⟩) hSa0 ?resta4
  case hya4 => intro V hSw; clear hSw; go_simp; try with_reducible rfl
  try simp only [Act.put, List.setIfInBounds_toArray, List.set_cons_zero, List.set_cons_succ]
  refine wpAnyH_ready (rs := [5]) (by kernel_rfl) (by simp) ?_
  refine' AllReadyH.cons (by simp only [List.getElem?_toArray, List.getElem?_cons_succ, List.getElem?_cons_zero]; rfl) (fun K hK => ?_) AllReadyH.nil
  go_simp
  refine (HV.out _ (Below.refl _ _).drew).mono ?_
  rintro e' V1 ⟨b, hr⟩
  obtain rfl := hr.ret
  have HR := Lib.hid (hr.from_ (w0 := w) (Below.refl _ _).drew)
  clear hr
  go_simp
  refine hK.out _ _ HR.out.but (fun hSa1 => ?_)
  try simp only [Act.put, List.setIfInBounds_toArray, List.set_cons_zero, List.set_cons_succ]
  refine wpAnyH_ready (rs := [6]) (by kernel_rfl) (by simp) ?_
  refine' AllReadyH.cons (by simp only [List.getElem?_toArray, List.getElem?_cons_succ, List.getElem?_cons_zero]; rfl) (fun K hK => ?_) AllReadyH.nil
  go_simp
  obtain ⟨m, hm⟩ : ∃ m : Int, (if b = true then (0 : Int) else 83) = m := ⟨_, rfl⟩
  have hcb := HC.out b V1
  rw [hm] at hcb
  have HM := Lib.hid hm
  clear hm
  refine hcb.mono ?_
  rintro e' V2 ⟨rfl, q⟩
  have HR2 := Lib.hid (HR.out.below q)
  clear q
  go_simp
  refine hK.out _ _ HR2.out.but (fun hSa2 => ?_)
  try simp only [Act.put, List.setIfInBounds_toArray, List.set_cons_zero, List.set_cons_succ]
  refine' wpAnyH_take (i := 7) (v := _) (by simp only [List.getElem?_toArray, List.getElem?_cons_succ, List.getElem?_cons_zero]; rfl) (by kernel_rfl) (by kernel_rfl) (by kernel_rfl) (by exact fun _ _ _ h => h) (Or.inl ⟨by rfl, ?hy7⟩) hSa2 ?rest7
  case hy7 => intro V hSw; clear hSw; go_simp; try with_reducible rfl
  try simp only [Act.put, List.setIfInBounds_toArray, List.set_cons_zero, List.set_cons_succ]
  refine wpAnyH_done (by kernel_rfl) ?_ _
  go_wp2_with fail
  go_ret
  exact ⟨b, by rw [HM.out]; rfl, HR2.out⟩
end Go.Proofs.YtfckomjbgopmaaaGreatDoor.Sch
end
section
set_option linter.unusedVariables false
namespace Go.Proofs.YtfckomjbgopmaaaGreatDoor.Sch
open Go.RowKit Words Tree SchP Kit Owned

set_option maxRecDepth 100000 in
set_option maxHeartbeats 2000000 in
theorem find1_any (f : FT) (X : Option Addr) (n z : Nat) (s : ByteArray) (g : Nat) (w : World) (hg : w.cell? ⟨g, 0, none⟩ = some (.string s)) (hgl : g < w.heap.size) :
    Calls Tryz.prog 72 #[.agg #[.string f.name, .int .i64 f.kind, .slice X n z, .int .i64 f.scale, .int .i64 f.dims, .bool f.many, .bool f.stored], .pointer (some ⟨g, 0, none⟩)] w (AnsB (decide (f.name = s)) w) := by
  have hne : g ≠ w.heap.size := by omega
  rcases str_cases f.name s with ⟨h1, h2⟩ | ⟨h1, h2⟩
  · have HD : Hid (decide (f.name = s) = true) := Lib.hid (decide_eq_true h1)
    clear h1
    go_enter Tryz.func72, Tryz.ntmps72
    go_wp2_with fail
    go_ret
    rw [HD.out]; exact ⟨rfl, (Below.refl _ w).alloc (Nat.le_refl _) _⟩
  · have HD : Hid (decide (f.name = s) = false) := Lib.hid (decide_eq_false h1)
    clear h1
    go_enter Tryz.func72, Tryz.ntmps72
    go_wp2_with fail
    go_ret
    rw [HD.out]; exact ⟨rfl, (Below.refl _ w).alloc (Nat.le_refl _) _⟩

set_option maxRecDepth 100000 in
set_option maxHeartbeats 2000000 in
theorem indexFunc_any (A : Option Addr) (cap : Nat) (l : List FT) (s : ByteArray) (g : Nat) (w : World) (hu : T.At bare w (fun g => g < w.heap.size) (fieldsT l) (.slice A l.length cap)) (hl : l.length * 72 ≤ 140737488351232) (hg : w.cell? ⟨g, 0, none⟩ = some (.string s)) (hgl : g < w.heap.size) :
    Calls Tryz.prog 71 #[.slice A l.length cap, .func (.func 72) #[] #[.pointer (some ⟨g, 0, none⟩)]] w (IntB (findZ l s) w) := by
  obtain ⟨_, _, he, hc, hm, hel⟩ := at_row fcells_len hu
  injection he with e1 _ e3
  subst e1 e3
  have EL := Lib.hid hel
  have HG : Hid (∀ W, Below w.heap.size w W → W.cell? ⟨g, 0, none⟩ = some (.string s)) := Lib.hid (fun W hW => (hW.cell (p := ⟨g, 0, none⟩) hgl).trans hg)
  clear hel hu hg
  obtain ⟨r, hr⟩ : ∃ r, findF l s = r := ⟨_, rfl⟩
  have HZ : Hid (findZ l s = zOf r) := Lib.hid (by rw [findZ_eq, hr])
  have HR : Hid ((findF (l.drop 0) s).map (· + 0) = r) := Lib.hid (by rw [← hr]; cases h : findF l s <;> simp [h])
  clear hr
  go_enter Tryz.func71, Tryz.ntmps71
  go_wp2_with fail
  go_loopw [5, 8] (fun _ i wr => ∃ k : Nat, k ≤ l.length ∧ i = .int .i64 k ∧ Hid ((findF (l.drop k) s).map (· + k) = r) ∧ Hid (Below w.heap.size w wr)) (fun _ i _ => l.length - (RowKit.intOf i).toNat)
  case atStart => exact ⟨0, by omega, rfl, HR, Lib.hid (Below.refl _ _)⟩
  case round =>
    obtain ⟨k, hk, rfl, HE, HB⟩ := hrel
    by_cases hlt : k < l.length
    · obtain ⟨ad, us, rfl, hba, au, lu, cu⟩ := EL.out k hlt
      replace cu := cu.keep (w' := wr) (fun p hp => HB.out.cell (by rw [hp, block_of_add]; exact hba))
      have HD := Lib.hid (findF_drop (s := s) hlt)
      generalize l[k] = f at *
      obtain ⟨vc, rfl, gc⟩ := at_fcells au
      obtain ⟨X, z, rfl, _, _⟩ := at_slice gc
      obtain ⟨a0, a1, a2, a3, a4, a5, a6⟩ := seven cu
      clear cu au lu gc
      have HC := Lib.hid (fun (W : World) (hW : Below w.heap.size w W) => find1_any f X f.chain.length z s g W (HG.out W hW) (Nat.lt_of_lt_of_le hgl hW.size))
      go_wp2_with fail
      refine (HC.out wr HB.out).mono ?_
      rintro e w2 ⟨rfl, b2⟩
      have HB2 := Lib.hid (HB.out.trans (b2.mono HB.out.size))
      clear a0 a1 a2 a3 a4 a5 a6 b2
      by_cases h1 : f.name = s
      · have HN : Hid (findZ l s = k) := Lib.hid (by rw [HZ.out, ← HE.out, HD.out, if_pos h1]; simp [zOf])
        have hd : decide (f.name = s) = true := decide_eq_true h1
        rw [hd]
        clear h1 hd
        go_wp2_with fail
        go_ret
        rw [HN.out]; exact ⟨rfl, HB2.out⟩
      · have HE2 : Hid ((findF (l.drop (k + 1)) s).map (· + (k + 1)) = r) := Lib.hid (by rw [← HE.out, HD.out, if_neg h1, Option.map_map]; congr 1; funext x; simp; omega)
        have hd : decide (f.name = s) = false := decide_eq_false h1
        rw [hd]
        clear h1 hd
        go_wp2_with fail
        go_roundw
        case rel => exact ⟨k + 1, by omega, by go_num, HE2, HB2⟩
        case measure => simp [RowKit.intOf]; omega
    · obtain rfl : k = l.length := by omega
      have HN : Hid (findZ l s = -1) := Lib.hid (by rw [HZ.out, ← HE.out, List.drop_length]; rfl)
      go_wp2_with fail
      go_ret
      rw [HN.out]; exact ⟨rfl, HB.out⟩
end Go.Proofs.YtfckomjbgopmaaaGreatDoor.Sch
end
section
set_option linter.unusedVariables false
namespace Go.Proofs.YtfckomjbgopmaaaGreatDoor.Sch
open Go.RowKit Words Tree SchP Kit Owned

def FindRet (z : Int) (w : World) (e : Ending) (w' : World) : Prop := e = .returned (.tuple #[.int .i64 (max 0 z), .bool (decide (0 ≤ z))]) ∧ Below w.heap.size w w'
set_option maxRecDepth 100000 in
set_option maxHeartbeats 2000000 in
theorem find_any (u : Value) (l : List FT) (s : ByteArray) (w : World) (hu : T.At bare w (fun g => g < w.heap.size) (fieldsT l) u) (hl : l.length * 72 ≤ 140737488351232) :
    Calls Tryz.prog 43 #[.agg #[u], .string s] w (FindRet (findZ l s) w) := by
  obtain ⟨A, cap, rfl, _, _⟩ := at_slice hu
  have HC := Lib.hid (fun (g : Nat) (W : World) (hW : Below w.heap.size w W) (hg : W.cell? ⟨g, 0, none⟩ = some (.string s)) (hgl : g < W.heap.size) => indexFunc_any A cap l s g W (At.below hu hW (fun g hg => Nat.lt_of_lt_of_le hg hW.size)) hl hg hgl)
  clear hu
  go_enter Tryz.func43, Tryz.ntmps43
  obtain ⟨z, hz⟩ : ∃ z, findZ l s = z := ⟨_, rfl⟩
  rw [hz] at HC ⊢
  have hzz : -1 ≤ z ∧ z ≤ 140737488351232 := by
    rw [← hz, findZ_eq]
    cases h : findF l s with
    | none => simp [zOf]
    | some i => obtain ⟨h1, _⟩ := findF_some h; simp only [zOf]; omega
  clear hz
  go_wp2_with fail
  refine (HC.out _ _ (below2 _ _) ((blk_b w #[.slice A l.length cap] #[.string s] 24 9).cell 0) (by simp)).mono ?_
  rintro e w1 ⟨rfl, hb⟩
  have HB := Lib.hid ((below2 _ _).trans (hb.mono (by simp; omega)) : Below w.heap.size w w1)
  clear hb
  rcases (show z = -1 ∨ z = 0 ∨ 0 < z by omega) with rfl | rfl | h0
  · go_wp2_with fail
    go_ret2
    exact ⟨rfl, HB.out⟩
  · go_wp2_with fail
    go_ret2
    exact ⟨rfl, HB.out⟩
  · have hd : decide ((0 : Int) ≤ z) = true := decide_eq_true (by omega)
    have hm : max (0 : Int) z = z := by omega
    have hd2 : decide ((0 : Int) < z) = true := decide_eq_true h0
    have hd3 : decide (z < 0) = false := by rw [decide_eq_false_iff_not]; omega
    have HQ := Lib.hid (And.intro hm hd)
    clear hm hd
    have hd : decide ((0 : Int) ≤ z) = true := HQ.out.2
    go_wp2_with fail
    go_ret2
    exact ⟨by rw [HQ.out.1, HQ.out.2]; rfl, HB.out⟩
end Go.Proofs.YtfckomjbgopmaaaGreatDoor.Sch
end
section
set_option linter.unusedVariables false
namespace Go.Proofs.YtfckomjbgopmaaaGreatDoor.Sch
open Go.RowKit Words Tree SchP Kit Owned AnaP

/-- A field's name is found, at its own place or ahead of it. -/
theorem find_self {l : List FT} {k : Nat} (h : k < l.length) : ∃ j : Nat, j ≤ k ∧ findZ l l[k].name = j ∧ firstB l k = decide (j = k) := by
  cases hf : findF l l[k].name with
  | none => exact absurd rfl (findF_none hf _ (List.getElem_mem h))
  | some j =>
    obtain ⟨h1, h2, h3⟩ := findF_some hf
    refine ⟨j, ?_, by rw [findZ_eq, hf]; rfl, ?_⟩
    · rcases Nat.lt_or_ge k j with h4 | h4
      · exact absurd rfl (h3 k h4)
      · exact h4
    · rw [first_find h, hf]; simp

set_option maxRecDepth 100000 in
set_option maxHeartbeats 4000000 in
theorem checkS_any (u : Value) (l : List FT) (w : World) (hu : T.At bare w (fun g => g < w.heap.size) (fieldsT l) u) (hl : l.length * 72 ≤ 140737488351232) (hf : ∀ f ∈ l, FOk f) :
    Calls Tryz.prog 25 #[.agg #[u]] w (IntB (errS (checkS l)) w) := by
  have HFI := Lib.hid (fun (s : ByteArray) (W : World) (hW : Below w.heap.size w W) => find_any u l s W (At.below hu hW (fun g hg => Nat.lt_of_lt_of_le hg hW.size)) hl)
  obtain ⟨A, cap, rfl, hc, hm, hel⟩ := at_row fcells_len hu
  have EL := Lib.hid hel
  have HF := Lib.hid hf
  obtain ⟨r, hr⟩ : ∃ r, checkS l = r := ⟨_, rfl⟩
  have HR := Lib.hid hr
  rw [hr]
  clear hel hu hf hr
  rcases (show l.length = 0 ∨ 16 < l.length ∨ (1 ≤ l.length ∧ l.length ≤ 16) by omega) with h0 | h0 | ⟨h0, h1⟩
  · have HRF : Hid (r = false) := Lib.hid (by rw [← HR.out, checkS, h0]; simp)
    rw [h0]
    clear EL HFI HF HR
    go_enter Tryz.func25, Tryz.ntmps25
    go_wp2_with fail
    go_ret
    rw [HRF.out]
    exact ⟨rfl, (Below.refl _ _).alloc (Nat.le_refl _) _⟩
  · have HRF : Hid (r = false) := Lib.hid (by rw [← HR.out, checkS]; simp; omega)
    have h2 : ¬ l.length < 1 := by omega
    have a1 : decide ((l.length : Int) < 1) = false := by rw [decide_eq_false_iff_not]; omega
    have a2 : decide ((16 : Int) < l.length) = true := by rw [decide_eq_true_iff]; omega
    go_enter Tryz.func25, Tryz.ntmps25
    go_wp2_with fail
    go_ret
    rw [HRF.out]
    exact ⟨rfl, (Below.refl _ _).alloc (Nat.le_refl _) _⟩
  have HRQ : Hid (r = okTo l l.length) := Lib.hid (by rw [← HR.out, checkS, decide_eq_true h0, decide_eq_true h1]; simp)
  have a1 : decide ((l.length : Int) < 1) = false := by rw [decide_eq_false_iff_not]; omega
  have a2 : decide ((16 : Int) < l.length) = false := by rw [decide_eq_false_iff_not]; omega
  clear HR
  go_enter Tryz.func25, Tryz.ntmps25
  go_wp2_with fail
  have HB := Lib.hid ((Below.refl _ w).alloc (Nat.le_refl _) (Obj.cells #[.slice A l.length cap] 24))
  have BA := Lib.hid (Blk.new w 24 #[.slice A l.length cap])
  have hzW : (w.alloc (Obj.cells #[.slice A l.length cap] 24)).heap.size = w.heap.size + 1 := by simp
  generalize w.alloc (Obj.cells #[.slice A l.length cap] 24) = W at *
  go_loopw [20] (fun i wr => ∃ k : Nat, k ≤ l.length ∧ i = .int .i64 k ∧ Hid (okTo l k = true) ∧ Hid (Below W.heap.size W wr)) (fun i _ => l.length - (intOf i).toNat)
  case atStart => exact ⟨0, by omega, rfl, Lib.hid (okTo_zero l), Lib.hid (Below.refl _ _)⟩
  case round =>
    obtain ⟨k, hkk, rfl, HK, HW⟩ := hrel
    have BA2 := Lib.hid (BA.out.below HW.out (by omega))
    have hcA : wr.cell? ⟨w.heap.size, 0, none⟩ = some (.slice A l.length cap) := BA2.out.cell 0
    have hzr := HW.out.size
    have HWW : Hid (Below w.heap.size w wr) := Lib.hid (HB.out.trans (HW.out.mono HB.out.size))
    by_cases hlt : k < l.length
    · obtain ⟨ad, us, rfl, hba, au, lu, cu⟩ := EL.out k hlt
      replace cu := cu.keep (w' := wr) (fun p hp => HWW.out.cell (by rw [hp, block_of_add]; exact hba))
      have hab : (ad.add (k * 7)).block < wr.heap.size := by rw [block_of_add]; omega
      have hok := HF.out _ (List.getElem_mem hlt)
      have HS : Hid (okTo l (k + 1) = (firstB l k && mayB l[k])) := Lib.hid (by rw [okTo_succ, HK.out, okAt_eq hlt]; simp)
      have HNO : Hid ((firstB l k && mayB l[k]) = false → r = false) := Lib.hid (fun h => by rw [HRQ.out]; exact okTo_no (by rw [okAt_eq hlt]; exact h) hlt)
      obtain ⟨j, hjk, hfz, hfb⟩ := find_self hlt
      rw [hfb] at HS HNO
      generalize l[k] = f at *
      obtain ⟨vc, rfl, gc⟩ := at_fcells au
      have HM := Lib.hid (fun (V : World) (hV : Below w.heap.size w V) => may_any f vc V (At.below gc hV (fun g hg => Nat.lt_of_lt_of_le hg hV.size)) hok)
      obtain ⟨X, z, rfl, _, _⟩ := at_slice gc
      have HFC := Lib.hid (fun (V : World) (hV : Below w.heap.size w V) => HFI.out f.name V hV)
      rw [hfz] at HFC
      obtain ⟨a0, a1', a2', a3, a4, a5, a6⟩ := seven cu
      clear cu au lu gc hok hfz hfb
      obtain ⟨f0, f1, f2, f3, f4, f5, f6⟩ := f
      dsimp only at *
      have hw1 : w.heap.size < wr.heap.size := by omega
      obtain ⟨b, hb⟩ : ∃ b, mayB ⟨f0, f1, f2, f3, f4, f5, f6⟩ = b := ⟨_, rfl⟩
      rw [hb] at HM HS HNO
      clear hb
      go_wp2_with fail
      refine (HFC.out _ (HWW.out.alloc HWW.out.size _)).mono ?_
      rintro e W1 ⟨rfl, b1⟩
      have HB1 := Lib.hid (((Below.refl _ wr).alloc (Nat.le_refl _) _).trans (b1.mono (by simp)) : Below wr.heap.size wr W1)
      have BF := Lib.hid ((Blk.new wr _ _).below b1 (by simp))
      obtain ⟨p0, p1, p2, p3, p4, p5, p6⟩ := blk7 BF.out
      have hmx : max 0 (j : Int) = j := by omega
      have hdx : decide (0 ≤ (j : Int)) = true := decide_eq_true (by omega)
      rw [hmx, hdx]
      clear b1 a0 a1' a2' a3 a4 a5 a6 hcA hmx hdx
      by_cases hj : j = k
      · subst hj
        have hbk : ((j : Int) != (j : Int)) = false := by simp
        go_wp2_with fail
        refine (HM.out _ (HWW.out.trans (HB1.out.mono HWW.out.size))).mono ?_
        rintro e W2 ⟨rfl, b2⟩
        have HB2 := Lib.hid (HB1.out.trans (b2.mono HB1.out.size))
        clear b2
        cases b with
        | true =>
          go_wp2_with fail
          go_roundw
          case rel => exact ⟨j + 1, by omega, by go_num, Lib.hid (by rw [HS.out]; simp), Lib.hid (HW.out.trans (HB2.out.mono HW.out.size))⟩
          case measure => simp [intOf]; omega
        | false =>
          have HN : Hid (r = false) := Lib.hid (HNO.out (by simp))
          go_wp2_with fail
          go_ret
          rw [HN.out]
          exact ⟨rfl, HWW.out.trans (HB2.out.mono HWW.out.size)⟩
      · have hbk : ((j : Int) != (k : Int)) = true := by rw [bne_iff_ne]; omega
        have HN : Hid (r = false) := Lib.hid (HNO.out (by rw [decide_eq_false hj]; rfl))
        go_wp2_with fail
        go_ret
        rw [HN.out]
        exact ⟨rfl, HWW.out.trans (HB1.out.mono HWW.out.size)⟩
    · obtain rfl : k = l.length := by omega
      have HT : Hid (r = true) := Lib.hid (by rw [HRQ.out, HK.out])
      go_wp2_with fail
      go_ret
      rw [HT.out]
      exact ⟨rfl, HWW.out⟩
end Go.Proofs.YtfckomjbgopmaaaGreatDoor.Sch
end
