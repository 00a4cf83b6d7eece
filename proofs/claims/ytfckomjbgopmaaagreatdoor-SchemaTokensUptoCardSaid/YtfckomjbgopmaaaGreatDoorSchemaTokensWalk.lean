/- The walk of SchemaTokens. Written by gen_schtokens.py. -/
import Derived.Test.YtfckomjbgopmaaaGreatDoorSchKnown
import Derived.Test.YtfckomjbgopmaaaGreatDoorPack16
import Derived.Test.YtfckomjbgopmaaaGreatDoorPack12
import Derived.Deep.RegionHeld3
set_option linter.unusedVariables false
namespace SchP
open AnaP
theorem toksGo_prefix (run : ByteArray → List TokD) (field : Int) : ∀ (cs : List CT) (out : List TokD), ∃ rest, toksGo run field out cs = out ++ rest
  | [], out => ⟨[], by simp [toksGo]⟩
  | c :: cs, out => by
    rw [toksGo]
    split
    · obtain ⟨r, h⟩ := toksGo_prefix run field cs (out ++ shiftP (baseP out) (run c.text))
      exact ⟨shiftP (baseP out) (run c.text) ++ r, by rw [h, List.append_assoc]⟩
    · exact toksGo_prefix run field cs out
/-- Where the last token lies, or before all. -/
def lastP (out : List TokD) : Int := match out.getLast? with
  | none => -1
  | some t => t.pos
theorem lastP_base {k : Nat} {out : List TokD} (h : ToksOk k out) : (lastP out = -1 ∧ baseP out = 0) ∨ (0 ≤ lastP out ∧ lastP out < 4200 * (k : Int) ∧ baseP out = lastP out + 101) := by
  unfold lastP baseP
  cases ht : out.getLast? with
  | none => exact .inl ⟨rfl, rfl⟩
  | some t =>
    have := h.pos t (List.mem_of_getLast? ht)
    exact .inr ⟨this.1, this.2, rfl⟩
theorem lastP_snoc (out : List TokD) (t : TokD) : lastP (out ++ [t]) = t.pos := by unfold lastP; simp
theorem toksF_one {l : List FT} {i : Nat} {f : FT} (h : checkS l = true) (hf : l[i]? = some f) (hk : f.kind = 1) (c : CT) (hc : c.field = i) : toksF l i [c] = runTk f c.text := by
  rw [toksF_in h hf, if_pos hk, toksGo, if_pos hc, toksGo]
  rw [List.nil_append]
  exact shiftP_zero _
theorem shift_get {b : Int} {out ts rest : List TokD} {j : Nat} (h : j < ts.length) : ∃ hh : out.length + j < (out ++ shiftP b ts ++ rest).length, (out ++ shiftP b ts ++ rest)[out.length + j] = { ts[j] with pos := ts[j].pos + b } := by
  have hl : j < (shiftP b ts).length := by rw [shiftP_len]; exact h
  refine ⟨by rw [List.length_append, List.length_append, shiftP_len]; omega, ?_⟩
  rw [List.getElem_append_left (by rw [List.length_append, shiftP_len]; omega), List.getElem_append_right (by omega)]
  simp [shiftP]
end SchP
namespace Go.Proofs.YtfckomjbgopmaaaGreatDoor.SchemaTokensWalk
open Go.RowKit Words Tree SchP Kit Owned Sch AnaP

/-- A row's one element, cut out. -/
theorem at_one {w : World} {S : Nat → Prop} {ad : Addr} {n cap : Nat} {cs : List CT} (h : T.At bare w S (cellsT cs) (.slice (some ad) n cap)) {k : Nat} (hk : k < cs.length) {c : CT} (hc : cs[k] = c) : T.At bare w S (cellsT [c]) (.slice (some (ad.add (k * 3))) 1 (cap - k)) := by
  subst hc
  simp only [cellsT, rowT, T.At] at h ⊢
  obtain ⟨A, c', vs, he, h1, h2, h3, h4, h5⟩ := h
  injection he with e1 e2 e3
  subst e1 e2 e3
  obtain ⟨ad', e, hS, hcell⟩ := h4 (by omega)
  injection e with e
  subst e
  obtain ⟨us, hl3, hul, hj⟩ := AtL.elem ccells_len h5 k hk
  refine ⟨_, _, us, rfl, by simp [bare] at h1 ⊢; omega, by omega, by simp [ccells], fun _ => ⟨_, rfl, by rw [block_of_add]; exact hS, fun j u hu => ?_⟩, by simpa using hul⟩
  simp only [bare, List.flatten_nil, List.append_nil] at hu hcell
  have hjl : j < us.length := (List.getElem?_eq_some_iff.1 hu).1
  have := hcell (k * 3 + j) u (by rw [hj j (by omega)]; exact hu)
  rw [show (ad.add (k * 3)).add j = ad.add (k * 3 + j) from by unfold Addr.add; (repeat' split) <;> simp_all <;> omega]
  exact this
set_option maxRecDepth 100000 in
set_option maxHeartbeats 100000000 in
theorem walk (u x : Value) (l : List FT) (field : Int) (cs : List CT) (w : World) (hu : T.At bare w (fun g => g < w.heap.size) (fieldsT l) u) (hl : l.length * 72 ≤ 140737488351232) (okf : ∀ f ∈ l, FOk f)
    (hx : T.At bare w (fun g => g < w.heap.size) (cellsT cs) x) (hd : cs.length ≤ 1048576) (okc : ∀ c ∈ cs, COk c) (hT : FoldNext.Tabs w) (hO : OrdLib.OTabs w) :
    Calls Tryz.prog 7 #[.agg #[u], .int .i64 field, x] w (AnsB true w) := by
  have hlt : ∀ {V : World} {g : Nat}, Below w.heap.size w V → g < w.heap.size → g < V.heap.size := fun hV hg => Nat.lt_of_lt_of_le hg hV.size
  have HKN := Lib.hid (fun (V : World) (hV : Below w.heap.size w V) => known_any V (hT.next hV) (hO.next hV))
  have HL1 := Lib.hid (fun (V : World) (hV : Below w.heap.size w V) => lentSchema_any u l V (At.below hu hV (fun g hg => hlt hV hg)) hl okf)
  have HL2 := Lib.hid (fun (V : World) (hV : Below w.heap.size w V) => lentCells_any x cs V (At.below hx hV (fun g hg => hlt hV hg)) (by omega) okc)
  have HCK := Lib.hid (fun (V : World) (hV : Below w.heap.size w V) => checkS_any u l V (At.below hu hV (fun g hg => hlt hV hg)) hl okf)
  have HIN := Lib.hid (fun (vi vd : Value) (V : World) (hi : T.At bare V (fun g => g < V.heap.size) (fieldsT l) vi) (hdd : T.At bare V (fun g => g < V.heap.size) (cellsT cs) vd) (hw : Below w.heap.size w V) => toksW_any vi vd l field cs V hi hl okf hdd hd okc (hT.next hw))
  have HONE := Lib.hid (fun (c : CT) (vd : Value) (V : World) (hc : COk c) (hdd : T.At bare V (fun g => g < V.heap.size) (cellsT [c]) vd) (hw : Below w.heap.size w V) => toksW_any u vd l field [c] V (At.below hu hw (fun g hg => hlt hw hg)) hl okf hdd (by simp) (by simpa using hc) (hT.next hw))
  have htk := toksF_ok l field cs
  obtain ⟨R, hR⟩ : ∃ R, toksF l field cs = R := ⟨_, rfl⟩
  rw [hR] at HIN htk
  have hrl : R.length ≤ 4294967296 := by have := htk.len; omega
  have HX := Lib.hid hx
  have HOC := Lib.hid okc
  have HR := Lib.hid hR
  have HTP := Lib.hid htk.text
  obtain ⟨A, cA, rfl, hcA, hmA, eA⟩ := at_row fcells_len hu
  obtain ⟨D, cD, rfl, hcD, hmD, eD⟩ := at_row ccells_len hx
  have EA := Lib.hid eA; have ED := Lib.hid eD
  clear hu hx hlt hT hO hR htk eA eD okc okf
  go_enter Tryz.func7, Tryz.ntmps7
  go_wp2_with fail
  have hB0 : Below w.heap.size w (w.alloc (.cells #[.slice A l.length cA] 24)) := (Below.refl _ _).alloc (Nat.le_refl _) _
  have BA0 := Blk.new w 24 #[.slice A l.length cA]
  refine (HKN.out _ hB0).mono ?_
  rintro e W1 ⟨rfl, b1⟩
  have HB1 := Lib.hid (hB0.trans (b1.mono hB0.size))
  have BA1 := Lib.hid (BA0.below b1 (by simp))
  have q0 : W1.cell? ⟨w.heap.size, 0, none⟩ = some (.slice A l.length cA) := BA1.out.cell 0
  clear b1 BA0 hB0 HKN
  go_wp2_with fail
  refine (HL1.out _ HB1.out).mono ?_
  rintro e W2 ⟨vi, rfl, ai, b2⟩
  have HB2 := Lib.hid (HB1.out.trans (b2.mono HB1.out.size))
  have BA2 := Lib.hid (BA1.out.below b2 BA1.out.lt)
  obtain ⟨L, c1, rfl, _, _⟩ := at_slice ai
  have AI := Lib.hid (At.keep (S' := fun g => g < W2.heap.size) (fun _ _ => rfl) (fun g h => h.2) ai)
  clear b2 ai BA1 HB1 HL1 q0
  go_wp2_with fail
  refine (HL2.out _ HB2.out).mono ?_
  rintro e W3 ⟨vc, rfl, ac, b3⟩
  have HB3 := Lib.hid (HB2.out.trans (b3.mono HB2.out.size))
  have BA3 := Lib.hid (BA2.out.below b3 BA2.out.lt)
  obtain ⟨M, c2, rfl, _, _⟩ := at_slice ac
  have HQ := Lib.hid (HIN.out _ _ W3 (At.below (S' := fun g => g < W3.heap.size) (At.bare AI.out) b3 (fun g hg => Nat.lt_of_lt_of_le hg b3.size)) (At.bare (At.keep (S' := fun g => g < W3.heap.size) (fun _ _ => rfl) (fun g h => h.2) ac)) HB3.out)
  clear b3 ac AI BA2 HB2 HL2 HIN
  go_wp2_with fail
  refine HQ.out.mono ?_
  rintro e W4 ⟨lo, lc, rfl, hown, b4⟩
  have HB4 := Lib.hid (HB3.out.trans (b4.mono HB3.out.size))
  have BA4 := Lib.hid (BA3.out.below b4 BA3.out.lt)
  have HRD : Hid (Reads W4 W4.heap.size 4 lo R.length (tokCells R)) := Lib.hid (by
    obtain ⟨_, _, hh, hr⟩ := Ana.reads_slice hown
    injection hh with h1 _ _
    subst h1; exact hr)
  have q0 : W4.cell? ⟨w.heap.size, 0, none⟩ = some (.slice A l.length cA) := BA4.out.cell 0
  clear b4 hown BA3 HB3 HQ
  go_wp2_with fail
  refine (HCK.out _ HB4.out).mono ?_
  rintro e W5 ⟨rfl, b5⟩
  have HB5 := Lib.hid (HB4.out.trans (b5.mono HB4.out.size))
  have BA5 := Lib.hid (BA4.out.below b5 BA4.out.lt)
  have HRD5 := Lib.hid ((HRD.out.below b5).more b5.size)
  clear b5 q0 BA4 HB4 HRD HCK
  have q0 : W5.cell? ⟨w.heap.size, 0, none⟩ = some (.slice A l.length cA) := BA5.out.cell 0
  have hnil : R = [] → ((R.length : Int) == 0) = true := fun h => by rw [h]; rfl
  cases hck : checkS l with
  | false =>
    have hz := hnil (HR.out.symm.trans (toksF_no (.inl hck) cs))
    rw [show errS false = 80 from rfl]
    clear hnil hck
    go_wp2_with fail
    go_ret
    exact ⟨by simp [hz], HB5.out⟩
  | true =>
  rw [show errS true = 0 from rfl]
  rcases (show field < 0 ∨ (¬ field < 0 ∧ (l.length : Int) ≤ field) ∨ (0 ≤ field ∧ field < l.length) by omega) with hn | ⟨hn, hn2⟩ | ⟨hn, hn2⟩
  · have hz := hnil (HR.out.symm.trans (toksF_no (.inr (.inl hn)) cs))
    have e1 : decide (field < 0) = true := decide_eq_true hn
    clear hn hnil hck
    go_wp2_with fail
    go_ret
    exact ⟨by simp [hz], HB5.out⟩
  · have hz := hnil (HR.out.symm.trans (toksF_no (.inr (.inr hn2)) cs))
    have e1 : decide (field < 0) = false := decide_eq_false hn
    have e2 : decide ((l.length : Int) ≤ field) = true := decide_eq_true hn2
    clear hn hn2 hnil hck
    go_wp2_with fail
    go_ret
    exact ⟨by simp [hz], HB5.out⟩
  obtain ⟨i, rfl⟩ : ∃ i : Nat, field = i := ⟨field.toNat, by omega⟩
  have hil : i < l.length := by omega
  have hil2 : (i : Int) < (l.length : Int) := by omega
  have e1 : decide ((i : Int) < 0) = false := decide_eq_false (by omega)
  have e2 : decide ((l.length : Int) ≤ i) = false := decide_eq_false (by omega)
  have e3 : decide (l.length ≤ i) = false := decide_eq_false (by omega)
  clear hn hn2
  obtain ⟨sd, us2, rfl, hbs, asx, ls, fs⟩ := EA.out i hil
  have hli : l[i]? = some l[i] := List.getElem?_eq_getElem hil
  generalize l[i] = f at *
  obtain ⟨vs, rfl, gs⟩ := at_fcells asx
  obtain ⟨s0, s1, s2, s3, s4, s5, s6⟩ := seven fs
  have hsb : (sd.add (i * 7)).block < w.heap.size := by rw [block_of_add]; exact hbs
  have q1 : W5.cell? ⟨(sd.add (i * 7)).block, (sd.add (i * 7)).off + 1, none⟩ = some (.int .i64 f.kind) := (HB5.out.cell (p := ⟨(sd.add (i * 7)).block, (sd.add (i * 7)).off + 1, none⟩) hsb).trans s1
  have hsb5 : (sd.add (i * 7)).block < W5.heap.size := by have := HB5.out.size; omega
  clear s0 s1 s2 s3 s4 s5 s6 asx ls gs fs
  obtain ⟨h1, h2⟩ | ⟨h1, h2⟩ := neqz f.kind 1
  rotate_left
  · have hz := hnil (HR.out.symm.trans (by rw [toksF_in hck hli, if_neg h1]))
    clear h1 hnil hck hli
    go_wp2_with fail
    go_ret
    exact ⟨by simp [hz], HB5.out⟩
  have HG0 : Hid (toksGo (runTk f) i [] (cs.drop 0) = R) := Lib.hid (by rw [← HR.out, toksF_in hck hli, if_pos h1, List.drop_zero])
  have HON : Hid (∀ c : CT, c.field = i → toksF l i [c] = runTk f c.text) := Lib.hid (fun c hc => toksF_one hck hli h1 c hc)
  have HRN : Hid (∀ s, runTk f s = (runF f.chain s).1) := Lib.hid (fun s => rfl)
  clear hck hli hnil
  go_wp2_with fail
  clear q0 q1 h2
  go_loopw [8, 9, 10] (fun at_ la i1 wr => ∃ (k : Nat) (out : List TokD), k ≤ cs.length ∧ i1 = .int .i64 k ∧ at_ = .int .i64 (out.length : Nat) ∧ la = .int .i64 (lastP out) ∧ Hid (toksGo (runTk f) i out (cs.drop k) = R) ∧ Hid (ToksOk k out) ∧ Hid (Below W5.heap.size W5 wr)) (fun _ _ i1 _ => cs.length - (intOf i1).toNat)
  case atStart => exact ⟨0, [], by omega, rfl, rfl, rfl, HG0, Lib.hid ToksOk.nil, Lib.hid (Below.refl _ _)⟩
  case round =>
    obtain ⟨k, out, hk, rfl, rfl, rfl, HGO, HOK, HBL⟩ := hrel
    obtain ⟨wo, hwo⟩ : ∃ wo : World, wo = wr := ⟨_, rfl⟩
    subst hwo
    have HBW := Lib.hid (HB5.out.trans (HBL.out.mono HB5.out.size))
    have hz5 := HBL.out.size
    by_cases hlt : k < cs.length
    rotate_left
    · obtain rfl : k = cs.length := by omega
      have hR2 : out.length = R.length := by have := HGO.out; rw [List.drop_length] at this; rw [← this]; rfl
      rw [hR2]
      clear hR2
      go_wp2_with fail
      go_ret
      exact ⟨by simp, HBW.out⟩
    obtain ⟨ad, us, rfl, hba, au, lu, cu⟩ := ED.out k hlt
    replace cu := cu.keep (w' := wo) (fun p hp => HBW.out.cell (by rw [hp, block_of_add]; exact hba))
    have HOC1 := Lib.hid (HOC.out _ (List.getElem_mem hlt))
    have HGN := Lib.hid ((toksGo_step (run := runTk f) (field := i) (out := out) hlt).symm.trans HGO.out)
    have HAT := Lib.hid (at_one HX.out hlt rfl)
    have hon := HON.out cs[k]
    generalize cs[k] = c at *
    obtain ⟨vc, rfl, gc⟩ := at_ccells au
    obtain ⟨Y0, z0, rfl, _, _⟩ := at_slice gc
    obtain ⟨a0, a1, a2⟩ := three cu
    have hab : (ad.add (k * 3)).block < wo.heap.size := by rw [block_of_add]; have := HBW.out.size; omega
    clear au lu gc cu HGO a1 a2
    obtain ⟨c0, ct, cn⟩ := c
    dsimp only at *
    obtain ⟨hc1, hc2⟩ | ⟨hc1, hc2⟩ := neqz c0 i
    rotate_left
    · have HST : Hid (toksGo (runTk f) i out (cs.drop (k + 1)) = R) := Lib.hid (by have := HGN.out; rwa [if_neg hc1] at this)
      clear hc1 hon
      go_wp2_with fail
      go_roundw
      case rel => exact ⟨k + 1, out, by omega, by go_num, rfl, rfl, HST, Lib.hid HOK.out.more, HBL⟩
      case measure => simp [intOf]; omega
    subst hc1
    have h1q := hon rfl
    obtain ⟨ts, hts⟩ : ∃ ts, runTk f ct = ts := ⟨_, rfl⟩
    have HGM : Hid (toksGo (runTk f) i (out ++ shiftP (baseP out) ts) (cs.drop (k + 1)) = R) := Lib.hid (by have := HGN.out; rw [if_pos rfl, hts] at this; exact this)
    have HOK2 : Hid (ToksOk (k + 1) (out ++ shiftP (baseP out) ts)) := Lib.hid (by rw [← hts, HRN.out]; exact HOK.out.step f.chain ct)
    have hts4 : ts.length ≤ 4096 := by rw [← hts, HRN.out]; exact runF_len f.chain ct
    have HTS : Hid (∀ t ∈ ts, 0 ≤ t.pos ∧ t.pos < 4096) := Lib.hid (by rw [← hts, HRN.out]; exact runF_pos f.chain ct)
    have HCALL := Lib.hid (fun (V : World) (hV : Below w.heap.size w V) => HONE.out ⟨i, ct, cn⟩ (.slice (some (ad.add (k * 3))) 1 (cD - k)) V HOC1.out (At.below HAT.out hV (fun g hg => Nat.lt_of_lt_of_le hg hV.size)) hV)
    rw [h1q, hts] at HCALL
    have hkc : (k : Int) + 1 ≤ (cD : Int) := by simp only [bare, List.length_nil, Nat.add_zero] at hcD; omega
    have hkc2 : k + 1 ≤ cD := by omega
    have hwr : IntKind.i64.wrap ((k : Int) + 1) = (k : Int) + 1 := IntWalk.i64_in _ (by omega)
    have hkc3 : ¬ cD = k := by omega
    have hkc4 : k ≤ k + 1 := by omega
    have hkc5 : (k : Int) ≤ (k : Int) + 1 := by omega
    have hkc6 : k + 1 - k = 1 := by omega
    have hkc7 : (0 : Int) ≤ (k : Int) + 1 := by omega
    have hkc8 : ((k : Int) + 1).toNat = k + 1 := by omega
    have hkc9 : ¬ ((k : Int) + 1 < 0) := by omega
    clear hts h1q hon HGN
    go_upto_region 12 with fail
    have BAo := Lib.hid (BA5.out.below HBL.out BA5.out.lt)
    clear a0
    refine wp_region_held_drew (S := fun V => Below wo.heap.size wo V) (by kernel_rfl) (Below.refl _ _).drew (fun hS0 => ?_)
    refine' wpAnyH_take (i := 0) (v := _) (by simp only [List.getElem?_toArray, List.getElem?_cons_zero]; rfl) (by kernel_rfl) (by kernel_rfl) (by kernel_rfl) (by exact fun _ _ _ h => h) (Or.inl ⟨by rfl, ?hmt0⟩) hS0 ?rmt0
    case hmt0 => intro V hSw; have fq : V.cell? ⟨w.heap.size, 0, none⟩ = some (.slice (some sd) l.length cA) := (BAo.out.below hSw BAo.out.lt).cell 0; clear hSw; go_simp; try with_reducible rfl
    try simp only [Act.put, List.setIfInBounds_toArray, List.set_cons_zero, List.set_cons_succ]
    refine' wpAnyH_take (i := 1) (v := _) (by simp only [List.getElem?_toArray, List.getElem?_cons_succ, List.getElem?_cons_zero]; rfl) (by kernel_rfl) (by kernel_rfl) (by kernel_rfl) (by exact fun _ _ _ h => h) (Or.inl ⟨by rfl, ?hmt1⟩) hS0 ?rmt1
    case hmt1 => intro V hSw; clear hSw; go_simp; try with_reducible rfl
    try simp only [Act.put, List.setIfInBounds_toArray, List.set_cons_zero, List.set_cons_succ]
    refine' wpAnyH_take (i := 2) (v := _) (by simp only [List.getElem?_toArray, List.getElem?_cons_succ, List.getElem?_cons_zero]; rfl) (by kernel_rfl) (by kernel_rfl) (by kernel_rfl) (by exact fun _ _ _ h => h) (Or.inl ⟨by rfl, ?hmt2⟩) hS0 ?rmt2
    case hmt2 => intro V hSw; clear hSw; go_simp; try with_reducible rfl
    try simp only [Act.put, List.setIfInBounds_toArray, List.set_cons_zero, List.set_cons_succ]
    refine' wpAnyH_take (i := 3) (v := _) (by simp only [List.getElem?_toArray, List.getElem?_cons_succ, List.getElem?_cons_zero]; rfl) (by kernel_rfl) (by kernel_rfl) (by kernel_rfl) (by exact fun _ _ _ h => h) (Or.inl ⟨by rfl, ?hmt3⟩) hS0 ?rmt3
    case hmt3 => intro V hSw; clear hSw; go_simp; try with_reducible rfl
    try simp only [Act.put, List.setIfInBounds_toArray, List.set_cons_zero, List.set_cons_succ]
    refine' wpAnyH_take (i := 4) (v := _) (by simp only [List.getElem?_toArray, List.getElem?_cons_succ, List.getElem?_cons_zero]; rfl) (by kernel_rfl) (by kernel_rfl) (by kernel_rfl) (by exact fun _ _ _ h => h) (Or.inl ⟨by rfl, ?hmt4⟩) hS0 ?rmt4
    case hmt4 => intro V hSw; clear hSw; go_simp; try with_reducible rfl
    try simp only [Act.put, List.setIfInBounds_toArray, List.set_cons_zero, List.set_cons_succ]
    refine' wpAnyH_take (i := 5) (v := _) (by simp only [List.getElem?_toArray, List.getElem?_cons_succ, List.getElem?_cons_zero]; rfl) (by kernel_rfl) (by kernel_rfl) (by kernel_rfl) (by exact fun _ _ _ h => h) (Or.inl ⟨by rfl, ?hmt5⟩) hS0 ?rmt5
    case hmt5 => intro V hSw; clear hSw; go_simp; try with_reducible rfl
    try simp only [Act.put, List.setIfInBounds_toArray, List.set_cons_zero, List.set_cons_succ]
    refine' wpAnyH_take (i := 6) (v := _) (by simp only [List.getElem?_toArray, List.getElem?_cons_succ, List.getElem?_cons_zero]; rfl) (by kernel_rfl) (by kernel_rfl) (by kernel_rfl) (by exact fun _ _ _ h => h) (Or.inl ⟨by rfl, ?hmt6⟩) hS0 ?rmt6
    case hmt6 => intro V hSw; clear hSw; go_simp; try with_reducible rfl
    try simp only [Act.put, List.setIfInBounds_toArray, List.set_cons_zero, List.set_cons_succ]
    refine wpAnyH_ready (rs := [7]) (by kernel_rfl) (by simp) ?_
    refine' AllReadyH.cons (by simp only [List.getElem?_toArray, List.getElem?_cons_succ, List.getElem?_cons_zero]; rfl) (fun K hK => ?_) AllReadyH.nil
    go_simp
    refine (HCALL.out _ (HBW.out.trans (hS0.mono HBW.out.size))).mono ?_
    rintro e' W6 ⟨ro, rc, rfl, hrow, hb6⟩
    have HB6 : Hid (Below wo.heap.size wo W6) := Lib.hid (((Below.refl _ wo).drew).trans hb6)
    have HRO : Hid (Reads W6 W6.heap.size 4 ro ts.length (tokCells ts)) := Lib.hid (by
      obtain ⟨_, _, hh, hr⟩ := Ana.reads_slice hrow
      injection hh with h1 _ _
      subst h1; exact hr)
    have hS1 : Below wo.heap.size wo W6 := HB6.out
    clear hb6 hrow
    go_simp
    refine hK.out _ _ hS1 (fun hS2 => ?_)
    try simp only [Act.put, List.setIfInBounds_toArray, List.set_cons_zero, List.set_cons_succ]
    refine' wpAnyH_take (i := 8) (v := _) (by simp only [List.getElem?_toArray, List.getElem?_cons_succ, List.getElem?_cons_zero]; rfl) (by kernel_rfl) (by kernel_rfl) (by kernel_rfl) (by exact fun _ _ _ h => h) (Or.inl ⟨by rfl, ?hmu8⟩) hS2 ?rmu8
    case hmu8 => intro V hSw; clear hSw; go_simp; try with_reducible rfl
    try simp only [Act.put, List.setIfInBounds_toArray, List.set_cons_zero, List.set_cons_succ]
    refine wpAnyH_done (by kernel_rfl) ?_ _
    clear hK K hS2 hS1 hS0 HCALL hwr hkc hkc2 hkc3 hkc4 hkc5 hkc6 hkc7 hkc8 hkc9
    have HBL6 : Hid (Below W5.heap.size W5 W6) := Lib.hid (HBL.out.trans (HB6.out.mono hz5))
    have HRL := Lib.hid ((HRD5.out.below HBL6.out).more HBL6.out.size)
    obtain ⟨rest, hrest⟩ := toksGo_prefix (runTk f) i (cs.drop (k + 1)) (out ++ shiftP (baseP out) ts)
    have HPR : Hid (R = out ++ shiftP (baseP out) ts ++ rest) := Lib.hid (HGM.out.symm.trans hrest)
    have hlen : out.length + ts.length ≤ R.length := by rw [HPR.out, List.length_append, List.length_append, shiftP_len]; omega
    have HLB := Lib.hid (lastP_base HOK.out)
    obtain ⟨a, ha⟩ : ∃ a, out.length = a := ⟨_, rfl⟩
    have HA := Lib.hid ha
    rw [ha] at hlen ⊢
    have hgt : decide ((R.length : Int) < (a : Int) + (ts.length : Int)) = false := decide_eq_false (by omega)
    have hgt2 : decide (R.length < a + ts.length) = false := decide_eq_false (by omega)
    clear ha hrest
    rcases HLB.out with ⟨hb1, hb2⟩ | ⟨hb0, hb1, hb2⟩
    · rw [hb1]
      have HBB := Lib.hid hb2
      have HLL := Lib.hid hb1
      clear hb1 hb2
      go_wp2_with fail
      go_loopw [9, 13] (fun la i1 wr => ∃ j : Nat, j ≤ ts.length ∧ i1 = .int .i64 j ∧ la = .int .i64 (lastP (out ++ (shiftP 0 ts).take j)) ∧ Hid (Below W6.heap.size W6 wr)) (fun _ i1 _ => ts.length - (intOf i1).toNat)
      case atStart => exact ⟨0, by omega, rfl, by simp [HLL.out], Lib.hid (Below.refl _ _)⟩
      case round =>
        obtain ⟨j, hj, rfl, rfl, HBQ⟩ := hrel
        obtain ⟨wq, hwq⟩ : ∃ wq : World, wq = wr := ⟨_, rfl⟩
        subst hwq
        by_cases hjl : j < ts.length
        rotate_left
        · obtain rfl : j = ts.length := by omega
          have hlst : (shiftP 0 ts).take ts.length = shiftP 0 ts := List.take_of_length_le (by rw [shiftP_len]; exact Nat.le_refl _)
          have hlo2 : (out ++ shiftP 0 ts).length = a + ts.length := by rw [List.length_append, shiftP_len, HA.out]
          have HST : Hid (toksGo (runTk f) i (out ++ shiftP 0 ts) (cs.drop (k + 1)) = R ∧ ToksOk (k + 1) (out ++ shiftP 0 ts)) := Lib.hid ⟨by have := HGM.out; rwa [HBB.out] at this, by have := HOK2.out; rwa [HBB.out] at this⟩
          have HLO := Lib.hid hlo2
          have HBF := Lib.hid (HBL6.out.trans (HBQ.out.mono HBL6.out.size))
          rw [hlst]
          clear hlst hlo2
          go_wp2_with fail
          go_roundw
          case rel => exact ⟨k + 1, out ++ shiftP 0 ts, by omega, by go_num, by rw [HLO.out]; go_num, rfl, Lib.hid HST.out.1, Lib.hid HST.out.2, HBF⟩
          case measure => simp [intOf]; omega
        · have hx2 : a + j < R.length := by omega
          obtain ⟨hh, hgx⟩ := shift_get (b := 0) (out := out) (rest := rest) hjl
          have hel : R[a + j] = { ts[j] with pos := ts[j].pos + 0 } := by
            have h1 : R[a + j]? = some { ts[j] with pos := ts[j].pos + 0 } := by
              rw [HPR.out, HBB.out, ← HA.out, List.getElem?_eq_getElem hh, hgx]
            rw [List.getElem?_eq_getElem hx2] at h1
            injection h1
          have HTK := Lib.hid (shiftP_take (b := 0) hjl)
          simp only [Int.add_zero] at HTK hel
          obtain ⟨ld, hlo, hlb, l0, l1, l2, l3⟩ := Ana.reads_tok HRL.out rfl hx2
          obtain ⟨rd, hro, hrb, r0, r1, r2, r3⟩ := Ana.reads_tok HRO.out rfl hjl
          rw [hel] at l0 l1 l2 l3
          have hps := HTS.out _ (List.getElem_mem hjl)
          generalize ts[j] = t at *
          obtain ⟨tx, ps, fr, tl⟩ := t
          dsimp only at *
          have hkw : ∀ (ad : Addr) (n m : Nat), ad.block < W6.heap.size → wq.cell? ⟨(ad.add n).block, (ad.add n).off + m, none⟩ = W6.cell? ⟨(ad.add n).block, (ad.add n).off + m, none⟩ := fun ad n m h => HBQ.out.cell (by show (ad.add n).block < _; rw [block_of_add]; exact h)
          rw [← HBQ.out.cell (by rw [block_of_add]; exact hlb)] at l0
          rw [← HBQ.out.cell (by rw [block_of_add]; exact hrb)] at r0
          rw [← hkw _ _ _ hlb] at l1 l2 l3
          rw [← hkw _ _ _ hrb] at r1 r2 r3
          subst hlo hro
          have hz6 := HBQ.out.size
          have hlb2 : (ld.add ((a + j) * 4)).block < wq.heap.size := by rw [block_of_add]; omega
          have hrb2 : (rd.add (j * 4)).block < wq.heap.size := by rw [block_of_add]; omega
          have haj : (a : Int) + (j : Int) < (R.length : Int) := by omega
          have hne1 : (ps != ps) = false := by simp
          have hne2 : (tx.toList != tx.toList) = false := by simp
          have hne3 : (fr != fr) = false := by simp
          have HLS : Hid (lastP (out ++ (shiftP 0 ts).take (j + 1)) = ps) := Lib.hid (by rw [HTK.out, ← List.append_assoc]; exact lastP_snoc _ _)
          have HBQ2 : Hid (Below W6.heap.size W6 wq.drew) := Lib.hid HBQ.out.drew
          clear hel hh hgx hkw
          go_wp2_with fail
          go_quiet (fail)
          go_wp2_with fail
          exact ⟨⟨j + 1, by omega, by go_num, by rw [HLS.out], Lib.hid (Words.below_drewN HBQ.out _)⟩, by simp [intOf]; omega⟩
    · obtain ⟨lp, hlp⟩ : ∃ lp, lastP out = lp := ⟨_, rfl⟩
      have HLL := Lib.hid hlp
      rw [hlp] at hb0 hb1 hb2 ⊢
      have HBB := Lib.hid hb2
      have hge : decide (0 ≤ lp) = true := decide_eq_true hb0
      clear hlp hb2
      go_wp2_with fail
      go_loopw [9, 13] (fun la i1 wr => ∃ j : Nat, j ≤ ts.length ∧ i1 = .int .i64 j ∧ la = .int .i64 (lastP (out ++ (shiftP (lp + 101) ts).take j)) ∧ Hid (Below W6.heap.size W6 wr)) (fun _ i1 _ => ts.length - (intOf i1).toNat)
      case atStart => exact ⟨0, by omega, rfl, by simp [HLL.out], Lib.hid (Below.refl _ _)⟩
      case round =>
        obtain ⟨j, hj, rfl, rfl, HBQ⟩ := hrel
        obtain ⟨wq, hwq⟩ : ∃ wq : World, wq = wr := ⟨_, rfl⟩
        subst hwq
        by_cases hjl : j < ts.length
        rotate_left
        · obtain rfl : j = ts.length := by omega
          have hlst : (shiftP (lp + 101) ts).take ts.length = shiftP (lp + 101) ts := List.take_of_length_le (by rw [shiftP_len]; exact Nat.le_refl _)
          have hlo2 : (out ++ shiftP (lp + 101) ts).length = a + ts.length := by rw [List.length_append, shiftP_len, HA.out]
          have HST : Hid (toksGo (runTk f) i (out ++ shiftP (lp + 101) ts) (cs.drop (k + 1)) = R ∧ ToksOk (k + 1) (out ++ shiftP (lp + 101) ts)) := Lib.hid ⟨by have := HGM.out; rwa [HBB.out] at this, by have := HOK2.out; rwa [HBB.out] at this⟩
          have HLO := Lib.hid hlo2
          have HBF := Lib.hid (HBL6.out.trans (HBQ.out.mono HBL6.out.size))
          rw [hlst]
          clear hlst hlo2
          go_wp2_with fail
          go_roundw
          case rel => exact ⟨k + 1, out ++ shiftP (lp + 101) ts, by omega, by go_num, by rw [HLO.out]; go_num, rfl, Lib.hid HST.out.1, Lib.hid HST.out.2, HBF⟩
          case measure => simp [intOf]; omega
        · have hx2 : a + j < R.length := by omega
          obtain ⟨hh, hgx⟩ := shift_get (b := (lp + 101)) (out := out) (rest := rest) hjl
          have hel : R[a + j] = { ts[j] with pos := ts[j].pos + (lp + 101) } := by
            have h1 : R[a + j]? = some { ts[j] with pos := ts[j].pos + (lp + 101) } := by
              rw [HPR.out, HBB.out, ← HA.out, List.getElem?_eq_getElem hh, hgx]
            rw [List.getElem?_eq_getElem hx2] at h1
            injection h1
          have HTK := Lib.hid (shiftP_take (b := (lp + 101)) hjl)
          obtain ⟨ld, hlo, hlb, l0, l1, l2, l3⟩ := Ana.reads_tok HRL.out rfl hx2
          obtain ⟨rd, hro, hrb, r0, r1, r2, r3⟩ := Ana.reads_tok HRO.out rfl hjl
          rw [hel] at l0 l1 l2 l3
          have hps := HTS.out _ (List.getElem_mem hjl)
          generalize ts[j] = t at *
          obtain ⟨tx, ps, fr, tl⟩ := t
          dsimp only at *
          have hkw : ∀ (ad : Addr) (n m : Nat), ad.block < W6.heap.size → wq.cell? ⟨(ad.add n).block, (ad.add n).off + m, none⟩ = W6.cell? ⟨(ad.add n).block, (ad.add n).off + m, none⟩ := fun ad n m h => HBQ.out.cell (by show (ad.add n).block < _; rw [block_of_add]; exact h)
          rw [← HBQ.out.cell (by rw [block_of_add]; exact hlb)] at l0
          rw [← HBQ.out.cell (by rw [block_of_add]; exact hrb)] at r0
          rw [← hkw _ _ _ hlb] at l1 l2 l3
          rw [← hkw _ _ _ hrb] at r1 r2 r3
          subst hlo hro
          have hz6 := HBQ.out.size
          have hlb2 : (ld.add ((a + j) * 4)).block < wq.heap.size := by rw [block_of_add]; omega
          have hrb2 : (rd.add (j * 4)).block < wq.heap.size := by rw [block_of_add]; omega
          have haj : (a : Int) + (j : Int) < (R.length : Int) := by omega
          have hne1 : ((ps + (lp + 101)) != (ps + (lp + 101))) = false := by simp
          have hne2 : (tx.toList != tx.toList) = false := by simp
          have hne3 : (fr != fr) = false := by simp
          have HLS : Hid (lastP (out ++ (shiftP (lp + 101) ts).take (j + 1)) = (ps + (lp + 101))) := Lib.hid (by rw [HTK.out, ← List.append_assoc]; exact lastP_snoc _ _)
          have HBQ2 : Hid (Below W6.heap.size W6 wq.drew) := Lib.hid HBQ.out.drew
          clear hel hh hgx hkw
          go_wp2_with fail
          go_quiet (fail)
          go_wp2_with fail
          exact ⟨⟨j + 1, by omega, by go_num, by rw [HLS.out], Lib.hid (Words.below_drewN HBQ.out _)⟩, by simp [intOf]; omega⟩
end Go.Proofs.YtfckomjbgopmaaaGreatDoor.SchemaTokensWalk
