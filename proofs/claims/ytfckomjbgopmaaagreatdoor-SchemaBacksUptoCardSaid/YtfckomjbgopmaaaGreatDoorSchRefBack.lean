/- Contract: the document's Back. Written by gen_refback.py. -/
import Derived.Test.YtfckomjbgopmaaaGreatDoorPack20
import Derived.Test.YtfckomjbgopmaaaGreatDoorSchRefCheck
import Derived.Deep.RegionHeld3
import Derived.Orders
set_option linter.unusedVariables false
namespace Go.Proofs.YtfckomjbgopmaaaGreatDoor.Sch
open Go.RowKit Words Tree SchP Kit Owned AnaP

set_option maxRecDepth 100000 in
set_option maxHeartbeats 100000000 in
theorem refBack_any (u x : Value) (l : List FT) (cs : List CT) (w : World) (hu : T.At bare w (fun g => g < w.heap.size) (fieldsT l) u) (hl : l.length * 72 ≤ 140737488351232) (hf : ∀ f ∈ l, FOk f)
    (hx : T.At bare w (fun g => g < w.heap.size) (cellsT cs) x) (hd : cs.length * 56 ≤ 140737488351232) (he : ∀ c ∈ cs, COk c) :
    Calls Tryz.prog 12 #[.agg #[u], x] w (BackRet (backF txtO l cs) w) := by
  have HCK := Lib.hid (fun (W : World) (hW : Below w.heap.size w W) => refCheckS_any u l W (At.below hu hW (fun g hg => Nat.lt_of_lt_of_le hg hW.size)) hl hf)
  obtain ⟨A, cA, rfl, hcA, hmA, eA⟩ := at_row fcells_len hu
  obtain ⟨D, cD, rfl, hcD, hmD, eD⟩ := at_row ccells_len hx
  have EA := Lib.hid eA; have ED := Lib.hid eD; have HF := Lib.hid hf; have HE := Lib.hid he
  clear hu hx eA eD hf he
  cases hck : checkS l with
  | false =>
    rw [hck] at HCK
    have HCF : Hid (backF txtO l cs = .error 80) := Lib.hid (by unfold backF; rw [if_pos hck])
    have herr : errS false = 80 := rfl
    rw [herr] at HCK
    go_enter Tryz.func12, Tryz.ntmps12
    go_wp2_with fail
    refine (HCK.out _ (below2 _ _)).mono ?_
    rintro e' W1 ⟨rfl, b1⟩
    have HB1 := Lib.hid ((below2 _ _).trans (b1.mono (by simp; omega)) : Below w.heap.size w W1)
    have BB := Lib.hid ((blk_b w #[.slice A l.length cA] #[.slice none 0 0] 24 30).below b1 (by simp))
    have c0 := BB.out.cell 0
    have c1 := BB.out.frozen 0
    clear b1
    go_wp2_with fail
    have cz : (W1.setCell ⟨w.heap.size + 1, 0, none⟩ (.slice none 0 0)).cell? ⟨w.heap.size + 1, 0, none⟩ = some (.slice none 0 0) := (BB.out.set_ 0 _).cell 0
    have HBZ : Hid (Below w.heap.size w (W1.setCell ⟨w.heap.size + 1, 0, none⟩ (.slice none 0 0))) := Lib.hid (HB1.out.setCell (by show w.heap.size ≤ w.heap.size + 1; omega) _)
    generalize W1.setCell ⟨w.heap.size + 1, 0, none⟩ (.slice none 0 0) = WZ at *
    refine bodyPost_ret (v := .tuple #[.agg #[.slice none 0 0], .int .i64 80]) (by simp [results, Tryz.results12, go_sem, cz]; try rfl) rfl ?_
    rw [HCF.out]
    exact ⟨HBZ.out, rfl⟩
  | true =>
  rw [hck] at HCK
  have herr : errS true = 0 := rfl
  rw [herr] at HCK
  obtain ⟨R, hR⟩ : ∃ R, backGo txtO l cs = R := ⟨_, rfl⟩
  have HCF : Hid (backF txtO l cs = R) := Lib.hid ((backF_yes hck).trans hR)
  go_enter Tryz.func12, Tryz.ntmps12
  go_wp2_with fail
  refine (HCK.out _ (below2 _ _)).mono ?_
  rintro e' W1 ⟨rfl, b1⟩
  have HB1 := Lib.hid ((below2 _ _).trans (b1.mono (by simp; omega)) : Below w.heap.size w W1)
  have BA := Lib.hid ((blk_a w #[.slice A l.length cA] #[.slice none 0 0] 24 30).below b1 (by simp; omega))
  have BB := Lib.hid ((blk_b w #[.slice A l.length cA] #[.slice none 0 0] 24 30).below b1 (by simp))
  have hz1 : w.heap.size + 2 ≤ W1.heap.size := BB.out.lt
  clear b1
  go_wp2_with fail
  obtain ⟨gd, hgd⟩ : ∃ gd, gd = W1.heap.size := ⟨_, rfl⟩
  have HS0 : Hid (BackSt w (.slice A l.length cA) l cs R gd 0 (W1.alloc (.cells #[.slice none 0 0] 30))) := Lib.hid (by
    subst hgd
    refine ⟨⟨[], .slice none 0 0, ?_, rfl, rowG_nil _, Blk.new _ _ _⟩, BA.out.alloc _, BB.out.alloc _, HB1.out.alloc HB1.out.size _, by omega, by simp⟩
    rw [← hR, List.drop_zero]
    cases backGo txtO l cs <;> rfl)
  rw [← hgd] at *
  generalize W1.alloc (.cells #[.slice none 0 0] 30) = W2 at *
  clear hR BA BB HB1
  go_loopw [7] (fun i wr => ∃ k : Nat, k ≤ cs.length ∧ i = .int .i64 k ∧ Hid (BackSt w (.slice A l.length cA) l cs R gd k wr)) (fun i _ => cs.length - (intOf i).toNat)
  case atStart => exact ⟨0, by omega, rfl, HS0⟩
  case round =>
    obtain ⟨k, hk, rfl, HS⟩ := hrel
    obtain ⟨wo, hwo⟩ : ∃ wo : World, wo = wr := ⟨_, rfl⟩
    subst hwo
    obtain ⟨⟨pre, v, hgo, hpl, hrow, hbd⟩, hbs, hbr, hbel, hfar1, hfar2⟩ := HS.out
    have HGO := Lib.hid hgo; have HPL := Lib.hid hpl; have HROW := Lib.hid hrow; have HBD := Lib.hid hbd; have HBS := Lib.hid hbs; have HBR := Lib.hid hbr; have HBL := Lib.hid hbel
    have hsz := hbel.size
    have hcd : wo.cell? ⟨gd, 0, none⟩ = some v := hbd.cell 0
    have hcr : wo.cell? ⟨w.heap.size + 1, 0, none⟩ = some (.slice none 0 0) := hbr.cell 0
    have hfr : wo.frozen? ⟨w.heap.size + 1, 0, none⟩ = false := hbr.frozen 0
    obtain ⟨Ao, co, rfl, _, _⟩ := at_slice (rowG_at ecells_len hrow)
    clear hpl hgo hrow hbd hbs hbr hbel HS
    by_cases hlt : k < cs.length
    rotate_left
    · obtain rfl : k = cs.length := by omega
      have HR2 : Hid (R = .ok pre) := Lib.hid (by
        have := HGO.out
        rw [List.drop_length] at this
        rw [← this]; simp [backGo, Except.map])
      have HAT := Lib.hid (rowG_at ecells_len HROW.out)
      go_wp2_with fail
      have cz : (wo.setCell ⟨w.heap.size + 1, 0, none⟩ (.slice Ao pre.length co)).cell? ⟨w.heap.size + 1, 0, none⟩ = some (.slice Ao pre.length co) := (HBR.out.set_ 0 _).cell 0
      have HBZ : Hid (Below w.heap.size w (wo.setCell ⟨w.heap.size + 1, 0, none⟩ (.slice Ao pre.length co))) := Lib.hid (HBL.out.setCell (by show w.heap.size ≤ w.heap.size + 1; omega) _)
      have HA2 : Hid (T.At bare (wo.setCell ⟨w.heap.size + 1, 0, none⟩ (.slice Ao pre.length co)) (fun g => w.heap.size ≤ g ∧ CellsAt (wo.setCell ⟨w.heap.size + 1, 0, none⟩ (.slice Ao pre.length co)) g) (entriesT pre) (.slice Ao pre.length co)) :=
        Lib.hid (At.keep (fun p hp => World.cell?_setCell_other _ _ _ _ (by intro h; subst h; have := hp.1; simp at this; omega)) (fun g hg => ⟨by omega, hg.2.set _ _⟩) HAT.out)
      rw [← HPL.out] at *
      generalize wo.setCell ⟨w.heap.size + 1, 0, none⟩ (.slice Ao pre.length co) = WZ at *
      refine bodyPost_ret (v := .tuple #[.agg #[.slice Ao pre.length co], .int .i64 0]) (by simp [results, Tryz.results12, go_sem, cz]; try rfl) rfl ?_
      rw [HCF.out, HR2.out]
      exact ⟨HBZ.out, _, rfl, HA2.out⟩
    obtain ⟨ad, us, rfl, hba, au, lu, cu⟩ := ED.out k hlt
    replace cu := cu.keep (w' := wo) (fun p hp => HBL.out.cell (by rw [hp, block_of_add]; exact hba))
    have HEO := Lib.hid (HE.out _ (List.getElem_mem hlt))
    have HGN := Lib.hid ((backGo_step (txt := txtO) (l := l) hlt pre).symm.trans HGO.out)
    generalize cs[k] = c at *
    obtain ⟨vc, rfl, gc⟩ := at_ccells au
    obtain ⟨Y0, z0, rfl, hz0, hmz0⟩ := at_slice gc
    have HEC := Lib.hid gc
    obtain ⟨a0, a1, a2⟩ := three cu
    have hab : (ad.add (k * 3)).block < wo.heap.size := by rw [block_of_add]; omega
    have hbs0 : wo.cell? ⟨w.heap.size, 0, none⟩ = some (.slice A l.length cA) := HBS.out.cell 0
    clear au lu gc cu HGO
    go_upto_region 8 with fail
    have BC := Lib.hid (Blk.new wo 57 #[.int .i64 c.field, .string c.text, .slice Y0 c.nums.length z0])
    have HB3 := Lib.hid ((Below.refl _ wo).alloc (Nat.le_refl _) (.cells #[.int .i64 c.field, .string c.text, .slice Y0 c.nums.length z0] 57))
    have hz3 : wo.heap.size + 1 = (wo.alloc (.cells #[.int .i64 c.field, .string c.text, .slice Y0 c.nums.length z0] 57)).heap.size := by simp
    generalize wo.alloc (.cells #[.int .i64 c.field, .string c.text, .slice Y0 c.nums.length z0] 57) = W3 at *
    clear a0 a1 a2 hcd hcr hfr hbs0
    have HBS3 := Lib.hid (HBS.out.below HB3.out (by omega)); have HBR3 := Lib.hid (HBR.out.below HB3.out (by omega)); have HBL3 := Lib.hid (HBL.out.trans (HB3.out.mono hsz))
    have d0 : W3.cell? ⟨wo.heap.size, 0, none⟩ = some (.int .i64 c.field) := BC.out.cell 0
    have d1 : W3.cell? ⟨w.heap.size, 0, none⟩ = some (.slice A l.length cA) := HBS3.out.cell 0
    have d2 : W3.cell? ⟨w.heap.size + 1, 0, none⟩ = some (.slice none 0 0) := HBR3.out.cell 0
    have d3 : W3.frozen? ⟨w.heap.size + 1, 0, none⟩ = false := HBR3.out.frozen 0
    rcases (show c.field < 0 ∨ (¬ c.field < 0 ∧ (l.length : Int) ≤ c.field) ∨ (0 ≤ c.field ∧ c.field < l.length) by omega) with hn | ⟨hn, hn2⟩ | ⟨hn, hn2⟩
    · have HER : Hid (R = .error 81) := Lib.hid (by have := HGN.out; rw [backE_81 (.inl hn)] at this; exact this.symm)
      have e1 : decide (c.field < 0) = true := decide_eq_true hn
      clear HGN hn
      go_wp2_with fail
      have cz : (W3.setCell ⟨w.heap.size + 1, 0, none⟩ (.slice none 0 0)).cell? ⟨w.heap.size + 1, 0, none⟩ = some (.slice none 0 0) := (HBR3.out.set_ 0 _).cell 0
      have HBZ : Hid (Below w.heap.size w (W3.setCell ⟨w.heap.size + 1, 0, none⟩ (.slice none 0 0))) := Lib.hid (HBL3.out.setCell (by show w.heap.size ≤ w.heap.size + 1; omega) _)
      generalize W3.setCell ⟨w.heap.size + 1, 0, none⟩ (.slice none 0 0) = WZ at *
      refine bodyPost_ret (v := .tuple #[.agg #[.slice none 0 0], .int .i64 81]) (by simp [results, Tryz.results12, go_sem, cz]; try rfl) rfl ?_
      rw [HCF.out, HER.out]
      exact ⟨HBZ.out, rfl⟩
    · have HER : Hid (R = .error 81) := Lib.hid (by have := HGN.out; rw [backE_81 (.inr hn2)] at this; exact this.symm)
      have e1 : decide (c.field < 0) = false := decide_eq_false hn
      have e2 : decide ((l.length : Int) ≤ c.field) = true := decide_eq_true hn2
      clear HGN hn hn2
      go_wp2_with fail
      have cz : (W3.setCell ⟨w.heap.size + 1, 0, none⟩ (.slice none 0 0)).cell? ⟨w.heap.size + 1, 0, none⟩ = some (.slice none 0 0) := (HBR3.out.set_ 0 _).cell 0
      have HBZ : Hid (Below w.heap.size w (W3.setCell ⟨w.heap.size + 1, 0, none⟩ (.slice none 0 0))) := Lib.hid (HBL3.out.setCell (by show w.heap.size ≤ w.heap.size + 1; omega) _)
      generalize W3.setCell ⟨w.heap.size + 1, 0, none⟩ (.slice none 0 0) = WZ at *
      refine bodyPost_ret (v := .tuple #[.agg #[.slice none 0 0], .int .i64 81]) (by simp [results, Tryz.results12, go_sem, cz]; try rfl) rfl ?_
      rw [HCF.out, HER.out]
      exact ⟨HBZ.out, rfl⟩
    obtain ⟨i, hi⟩ : ∃ i : Nat, c.field = i := ⟨c.field.toNat, by omega⟩
    have hil : i < l.length := by omega
    have e1 : decide (c.field < 0) = false := decide_eq_false (by omega)
    have e2 : decide ((l.length : Int) ≤ c.field) = false := decide_eq_false (by omega)
    have e3 : decide (l.length ≤ i) = false := decide_eq_false (by omega)
    have hil2 : (i : Int) < (l.length : Int) := by omega
    have HCI := Lib.hid hi
    obtain ⟨c0, ct, cn⟩ := c
    dsimp only at *
    obtain rfl : c0 = i := hi
    clear hn hn2 d2 d3
    obtain ⟨sd, us2, rfl, hbs, asx, ls, fs⟩ := EA.out i hil
    replace fs := fs.keep (w' := W3) (fun p hp => HBL3.out.cell (by rw [hp, block_of_add]; exact hbs))
    have hli : l[i]? = some l[i] := List.getElem?_eq_getElem hil
    have hmay : mayB l[i] = true := may_of hck hli
    have HFO := Lib.hid (HF.out _ (List.getElem_mem hil))
    generalize l[i] = f at *
    obtain ⟨vs, rfl, gs⟩ := at_fcells asx
    obtain ⟨X, z1, rfl, hz1', hmz1⟩ := at_slice gs
    obtain ⟨s0, s1, s2, s3, s4, s5, s6⟩ := seven fs
    have hsb : (sd.add (i * 7)).block < W3.heap.size := by rw [block_of_add]; omega
    have HLI := Lib.hid hli
    have hkd := kind_of hmay
    clear hli asx ls gs fs hmay
    go_upto_region 11 with fail
    have BF := Lib.hid (Blk.new W3 54 #[.string f.name, .int .i64 f.kind, .slice X f.chain.length z1, .int .i64 f.scale, .int .i64 f.dims, .bool f.many, .bool f.stored])
    have HB4 := Lib.hid ((Below.refl _ W3).alloc (Nat.le_refl _) (.cells #[.string f.name, .int .i64 f.kind, .slice X f.chain.length z1, .int .i64 f.scale, .int .i64 f.dims, .bool f.many, .bool f.stored] 54))
    have hz4 : W3.heap.size + 1 = (W3.alloc (.cells #[.string f.name, .int .i64 f.kind, .slice X f.chain.length z1, .int .i64 f.scale, .int .i64 f.dims, .bool f.many, .bool f.stored] 54)).heap.size := by simp
    generalize W3.alloc (.cells #[.string f.name, .int .i64 f.kind, .slice X f.chain.length z1, .int .i64 f.scale, .int .i64 f.dims, .bool f.many, .bool f.stored] 54) = W4 at *
    have HOB : Hid (Below wo.heap.size wo W4) := Lib.hid (HB3.out.trans (HB4.out.mono (by omega)))
    have HBL4 : Hid (Below w.heap.size w W4) := Lib.hid (HBL.out.trans (HOB.out.mono hsz))
    have BC4 := Lib.hid (BC.out.below HB4.out (by omega))
    have HBR4 := Lib.hid (HBR3.out.below HB4.out (by omega))
    clear s0 s1 s2 s3 s4 s5 s6 d0 d1 e1 e2 e3 hab hsb
    obtain ⟨f0, f1, f2, f3, f4, f5, f6⟩ := f
    dsimp only at *
    obtain ⟨p0, p1, p2, p3, p4, p5, p6⟩ := blk7 BF.out
    have q1 : W4.cell? ⟨wo.heap.size, 1, none⟩ = some (.string ct) := BC4.out.cell 1
    have q2 : W4.cell? ⟨wo.heap.size, 2, none⟩ = some (.slice Y0 cn.length z0) := BC4.out.cell 2
    have r2 : W4.cell? ⟨w.heap.size + 1, 0, none⟩ = some (.slice none 0 0) := HBR4.out.cell 0
    have r3 : W4.frozen? ⟨w.heap.size + 1, 0, none⟩ = false := HBR4.out.frozen 0
    have HBI : Hid (backE txtO l ⟨i, ct, cn⟩ = if ¬ ((cn.length : Int) = wantC ⟨f0, f1, f2, f3, f4, f5, f6⟩) ∨ (0 < wantC ⟨f0, f1, f2, f3, f4, f5, f6⟩ ∧ 0 < ct.size) then .error 82 else if f1 = 4 then .ok ⟨f0, txtO ⟨f0, f1, f2, f3, f4, f5, f6⟩ (cn.getD 0 0), []⟩ else .ok ⟨f0, ct, cn⟩) := Lib.hid (backE_in rfl HLI.out)
    rcases hkd with rfl | rfl | rfl | rfl | ⟨rfl, hd1, hd4⟩
    · have hw : wantC ⟨f0, 1, f2, f3, f4, f5, f6⟩ = 0 := rfl
      rw [hw] at HBI
      obtain ⟨hl1, hl2⟩ | ⟨hl1, hl2⟩ := neqn cn.length 0
      rotate_left
      · have HER : Hid (R = .error 82) := Lib.hid (by have := HGN.out; rw [HBI.out, if_pos (.inl hl1)] at this; exact this.symm)
        clear HGN HBI hl1
        go_wp2_with fail
        have cz : (W4.setCell ⟨w.heap.size + 1, 0, none⟩ (.slice none 0 0)).cell? ⟨w.heap.size + 1, 0, none⟩ = some (.slice none 0 0) := (HBR4.out.set_ 0 _).cell 0
        have HBZ : Hid (Below w.heap.size w (W4.setCell ⟨w.heap.size + 1, 0, none⟩ (.slice none 0 0))) := Lib.hid (HBL4.out.setCell (by show w.heap.size ≤ w.heap.size + 1; omega) _)
        generalize W4.setCell ⟨w.heap.size + 1, 0, none⟩ (.slice none 0 0) = WZ at *
        refine bodyPost_ret (v := .tuple #[.agg #[.slice none 0 0], .int .i64 82]) (by simp [results, Tryz.results12, go_sem, cz]; try rfl) rfl ?_
        rw [HCF.out, HER.out]
        exact ⟨HBZ.out, rfl⟩
      have HBE : Hid (backE txtO l ⟨i, ct, cn⟩ = .ok ⟨f0, ct, cn⟩) := Lib.hid (by rw [HBI.out, if_neg (by rintro (h | ⟨h, h2⟩); exact h hl1; omega), if_neg (by decide)])
      clear HBI hl1
      go_upto_region 21 with fail
      obtain ⟨gE, hgE⟩ : ∃ gE, gE = W4.heap.size := ⟨_, rfl⟩
      have BE5 : Hid (Blk (W4.alloc (.cells #[.string f0, .string ct, .slice none 0 0] 68)) gE 68 #[.string f0, .string ct, .slice none 0 0]) := Lib.hid (by subst hgE; exact Blk.new W4 _ _)
      have HB5 : Hid (Below W4.heap.size W4 (W4.alloc (.cells #[.string f0, .string ct, .slice none 0 0] 68))) := Lib.hid ((Below.refl _ W4).alloc (Nat.le_refl _) _)
      clear p0 p1 p2 p3 p4 p5 p6 q1 q2 r2 r3
      rw [← hgE]
      generalize W4.alloc (.cells #[.string f0, .string ct, .slice none 0 0] 68) = W5 at *
      have hgl : gE < W5.heap.size := BE5.out.lt
      have hge : W4.heap.size ≤ gE := by omega
      have HOB5 : Hid (Below wo.heap.size wo W5) := Lib.hid (HOB.out.trans (HB5.out.mono (by omega)))
      have HBL5 : Hid (Below w.heap.size w W5) := Lib.hid (HBL.out.trans (HOB5.out.mono hsz))
      have BF5 := Lib.hid (BF.out.below HB5.out BF.out.lt); have BC5 := Lib.hid (BC4.out.below HB5.out BC4.out.lt)
      have hz5 := HB5.out.size
      have q0 : W5.cell? ⟨W3.heap.size, 1, none⟩ = some (.int .i64 1) := BF5.out.cell 1
      have q2 : W5.cell? ⟨wo.heap.size, 2, none⟩ = some (.slice Y0 cn.length z0) := BC5.out.cell 2
      have q3 : W5.cell? ⟨gE, 2, none⟩ = some (.slice none 0 0) := BE5.out.cell 2
      have q4 : W5.frozen? ⟨gE, 2, none⟩ = false := BE5.out.frozen 2
      clear hgE
      obtain ⟨_, _, he0, _, _, hrd0⟩ := at_nums HEC.out
      injection he0 with ee1 _ ee3
      subst ee1 ee3
      have HRD := Lib.hid ((hrd0.below HBL5.out).more HBL5.out.size)
      have hnb := HEO.out.nums.1
      obtain ⟨i0, hi1, hi2, hi3, hi4⟩ := info_parts infoI64
      dsimp only at hnb
      clear hrd0
      go_wp2_with (at_builtin; refine wpList_append_any _ rfl (.tmp 91) (.tmp 93) 55 rfl W5.heap.size 2 i0 (.int .i64 0) 1 8 Tryz.underlying55 hi1 hi2 hi3 hi4 rfl (by decide) _ 0 [] rfl (World.ownsRow_nil _ _ _ _) W5.heap.size Y0 cn.length z0 (cn.map (Value.int .i64)) rfl ?c11 ?c12 ?c13 ?c14 ?c15 ?_)
      case c11 => exact HRD.out
      case c12 => intro u hu; rfl
      case c13 => unfold maxLen; omega
      case c14 => omega
      intro v1 w6 ho1 hg1 _
      replace ho1 : w6.ownsRow W5.heap.size 2 1 v1 cn.length (cn.map (Value.int .i64)) := by simpa using ho1
      have hb6 : Below W5.heap.size W5 w6 := (Below.refl _ W5).grown hg1 (Nat.le_refl _) (fun r e => by simp [Value.ownBlock] at e)
      have HAT := Lib.hid (nums_cells ho1)
      obtain ⟨Y, z2, rfl, _, _⟩ := at_slice HAT.out
      have BE6 := Lib.hid (BE5.out.below hb6 hgl)
      have HB6 := Lib.hid hb6
      have g1 : w6.cell? ⟨gE, 2, none⟩ = some (.slice none 0 0) := BE6.out.cell 2
      have j1 : w6.frozen? ⟨gE, 2, none⟩ = false := BE6.out.frozen 2
      have hz6 : gE < w6.heap.size := BE6.out.lt
      clear ho1 hg1 hb6 q0 q2 q3 q4 hi1 hi2 hi3 hi4
      go_upto_region 25 with fail
      have HOB8 : Hid (Below wo.heap.size wo (w6.setCell ⟨gE, 2, none⟩ (.slice Y cn.length z2))) := Lib.hid (((HOB5.out.trans (HB6.out.mono (by omega)))).setCell (by show wo.heap.size ≤ gE; omega) _)
      have BE8 : Hid (Blk (w6.setCell ⟨gE, 2, none⟩ (.slice Y cn.length z2)) gE 68 #[.string f0, .string ct, .slice Y cn.length z2]) := Lib.hid (BE6.out.set_ 2 _)
      have HN8 : Hid (T.At bare (w6.setCell ⟨gE, 2, none⟩ (.slice Y cn.length z2)) (fun h => wo.heap.size ≤ h ∧ CellsAt (w6.setCell ⟨gE, 2, none⟩ (.slice Y cn.length z2)) h) (numsT .i64 cn) (.slice Y cn.length z2)) := Lib.hid (At.keep (fun _ _ => rfl) (fun g hg => ⟨by have := hg.1; omega, hg.2⟩) (at_far HAT.out (p := ⟨gE, 2, none⟩) rfl hgl (.slice Y cn.length z2)))
      clear g1 j1 HAT
      generalize w6.setCell ⟨gE, 2, none⟩ (.slice Y cn.length z2) = W8 at *
      have BD9 := Lib.hid (HBD.out.below HOB8.out hfar2)
      have e0 : W8.cell? ⟨gE, 0, none⟩ = some (.string f0) := BE8.out.cell 0
      have e1 : W8.cell? ⟨gE, 1, none⟩ = some (.string ct) := BE8.out.cell 1
      have e2 : W8.cell? ⟨gE, 2, none⟩ = some (.slice Y cn.length z2) := BE8.out.cell 2
      have e3 : W8.cell? ⟨gd, 0, none⟩ = some (.slice Ao pre.length co) := BD9.out.cell 0
      have hz9 : wo.heap.size ≤ W8.heap.size := HOB8.out.size
      obtain ⟨j0, hj1, hj2, hj3, hj4⟩ := info_parts infoE
      obtain ⟨xs, hxo, hxa⟩ := HROW.out
      have HXA := Lib.hid hxa; have HXO := Lib.hid hxo
      have hown := own_below hxo HOB8.out
      have hpk : pre.length ≤ k := Nat.le_of_eq HPL.out
      clear hxa hxo
      go_wp2_with (at_builtin; refine wpList_append_any _ rfl (.tmp 97) (.tmp 99) 28 rfl gd 68 j0 _ 3 56 Tryz.underlying28 hj1 hj2 hj3 hj4 rfl (by decide) _ _ xs rfl (hown.alloc _) (W8.heap.size + 1) (some ⟨W8.heap.size, 0, none⟩) 1 1 [.string f0, .string ct, .slice Y cn.length z2] rfl ?dk11 ?dk12 ?dk13 ?dk14 ?dk15 ?_)
      case dk11 => exact ⟨rfl, fun _ => ⟨_, rfl, by simp, fun j u hu => cells_new W8 [.string f0, .string ct, .slice Y cn.length z2] _ j u hu⟩⟩
      case dk12 => first | exact ⟨rfl, rfl, rfl⟩ | (intro u hu; simp only [List.mem_cons, List.not_mem_nil, or_false] at hu; rcases hu with rfl | rfl | rfl <;> rfl)
      case dk13 => unfold maxLen; omega
      case dk14 => omega
      case dk15 => first | omega | (simp; omega)
      intro v' wA ho hg hv
      obtain ⟨g', cap', rfl⟩ := ownsRow_succ ho
      have HRG : Hid (RowG bare 68 3 ecells (some gd) gd wA (.slice (some ⟨g', 0, none⟩) (pre.length + 1) cap') (pre ++ [(⟨f0, ct, cn⟩ : ET)])) := Lib.hid (by
        refine rowG_step (us := [.string f0, .string ct, .slice Y cn.length z2]) (wr := wo) (w3 := W8.alloc (.cells #[.string f0, .string ct, .slice Y cn.length z2] 68)) (by omega) (fun b h => by cases h; exact hfar2) HXO.out HXA.out ?_ (HOB8.out.alloc hz9 _) ho hg (by simpa using hv)
        refine ecells_mk (At.keep (fun p hp => World.cell?_alloc_lt _ _ _ hp.2.lt) (fun g h => ⟨h.1, h.2.below (Below.alloc (Below.refl _ _) (Nat.le_refl _) _) h.2.lt⟩) HN8.out))
      have hkb : ∀ {g : Nat} {cs : Array Value} {t : TypeId}, Blk W8 g t cs → 68 ≠ t → Blk wA g t cs := fun h hne => (h.alloc _).grown hg (fun e => own_blk_ne hown h hne e.symm)
      have hbs9 := hkb (HBS.out.below HOB8.out (by omega)) (by decide)
      have hbr9 := hkb (HBR.out.below HOB8.out (by omega)) (by decide)
      have hbd9 := hkb BD9.out (by decide)
      have hnr : (Value.slice (some ⟨g', 0, none⟩) (pre.length + 1) cap').ownBlock ≠ some gd := own_blk_ne ho hbd9 (by decide)
      have HBLA : Hid (Below w.heap.size w wA) := Lib.hid (((HBL.out.trans (HOB8.out.mono hsz)).alloc (by omega) _).grown hg (by simp; omega) (fun r h => by have := (hown.lt r h).1; omega))
      have hza : gd < wA.heap.size := hbd9.lt
      have f0' : wA.cell? ⟨gd, 0, none⟩ = some (.slice Ao pre.length co) := hbd9.cell 0
      have f1' : wA.frozen? ⟨gd, 0, none⟩ = false := hbd9.frozen 0
      have HST : Hid (BackSt w (.slice (some sd) l.length cA) l cs R gd (k + 1) (wA.setCell ⟨gd, 0, none⟩ (.slice (some ⟨g', 0, none⟩) (pre.length + 1) cap'))) := Lib.hid (by
        refine ⟨⟨pre ++ [(⟨f0, ct, cn⟩ : ET)], .slice (some ⟨g', 0, none⟩) (pre.length + 1) cap', ?_, by simp [HPL.out], rowG_set HRG.out hnr _, hbd9.set_ 0 _⟩, hbs9.far (p := ⟨gd, 0, none⟩) (by show w.heap.size ≠ gd; omega) _, hbr9.far (p := ⟨gd, 0, none⟩) (by show w.heap.size + 1 ≠ gd; omega) _, HBLA.out.setCell (by show w.heap.size ≤ gd; omega) _, hfar1, by simpa [World.setCell] using hza⟩
        have := HGN.out
        rw [HBE.out] at this
        exact this)
      clear ho hg hv hkb hbs9 hbr9 hbd9 hnr hown e0 e1 e2 e3 HRG HXA HXO
      go_wp2_with fail
      go_roundw
      case rel => exact ⟨k + 1, by omega, by go_num, HST⟩
      case measure => simp [intOf]; omega
    · have hw : wantC ⟨f0, 2, f2, f3, f4, f5, f6⟩ = 0 := rfl
      rw [hw] at HBI
      obtain ⟨hl1, hl2⟩ | ⟨hl1, hl2⟩ := neqn cn.length 0
      rotate_left
      · have HER : Hid (R = .error 82) := Lib.hid (by have := HGN.out; rw [HBI.out, if_pos (.inl hl1)] at this; exact this.symm)
        clear HGN HBI hl1
        go_wp2_with fail
        have cz : (W4.setCell ⟨w.heap.size + 1, 0, none⟩ (.slice none 0 0)).cell? ⟨w.heap.size + 1, 0, none⟩ = some (.slice none 0 0) := (HBR4.out.set_ 0 _).cell 0
        have HBZ : Hid (Below w.heap.size w (W4.setCell ⟨w.heap.size + 1, 0, none⟩ (.slice none 0 0))) := Lib.hid (HBL4.out.setCell (by show w.heap.size ≤ w.heap.size + 1; omega) _)
        generalize W4.setCell ⟨w.heap.size + 1, 0, none⟩ (.slice none 0 0) = WZ at *
        refine bodyPost_ret (v := .tuple #[.agg #[.slice none 0 0], .int .i64 82]) (by simp [results, Tryz.results12, go_sem, cz]; try rfl) rfl ?_
        rw [HCF.out, HER.out]
        exact ⟨HBZ.out, rfl⟩
      have HBE : Hid (backE txtO l ⟨i, ct, cn⟩ = .ok ⟨f0, ct, cn⟩) := Lib.hid (by rw [HBI.out, if_neg (by rintro (h | ⟨h, h2⟩); exact h hl1; omega), if_neg (by decide)])
      clear HBI hl1
      go_upto_region 21 with fail
      obtain ⟨gE, hgE⟩ : ∃ gE, gE = W4.heap.size := ⟨_, rfl⟩
      have BE5 : Hid (Blk (W4.alloc (.cells #[.string f0, .string ct, .slice none 0 0] 68)) gE 68 #[.string f0, .string ct, .slice none 0 0]) := Lib.hid (by subst hgE; exact Blk.new W4 _ _)
      have HB5 : Hid (Below W4.heap.size W4 (W4.alloc (.cells #[.string f0, .string ct, .slice none 0 0] 68))) := Lib.hid ((Below.refl _ W4).alloc (Nat.le_refl _) _)
      clear p0 p1 p2 p3 p4 p5 p6 q1 q2 r2 r3
      rw [← hgE]
      generalize W4.alloc (.cells #[.string f0, .string ct, .slice none 0 0] 68) = W5 at *
      have hgl : gE < W5.heap.size := BE5.out.lt
      have hge : W4.heap.size ≤ gE := by omega
      have HOB5 : Hid (Below wo.heap.size wo W5) := Lib.hid (HOB.out.trans (HB5.out.mono (by omega)))
      have HBL5 : Hid (Below w.heap.size w W5) := Lib.hid (HBL.out.trans (HOB5.out.mono hsz))
      have BF5 := Lib.hid (BF.out.below HB5.out BF.out.lt); have BC5 := Lib.hid (BC4.out.below HB5.out BC4.out.lt)
      have hz5 := HB5.out.size
      have q0 : W5.cell? ⟨W3.heap.size, 1, none⟩ = some (.int .i64 2) := BF5.out.cell 1
      have q2 : W5.cell? ⟨wo.heap.size, 2, none⟩ = some (.slice Y0 cn.length z0) := BC5.out.cell 2
      have q3 : W5.cell? ⟨gE, 2, none⟩ = some (.slice none 0 0) := BE5.out.cell 2
      have q4 : W5.frozen? ⟨gE, 2, none⟩ = false := BE5.out.frozen 2
      clear hgE
      obtain ⟨_, _, he0, _, _, hrd0⟩ := at_nums HEC.out
      injection he0 with ee1 _ ee3
      subst ee1 ee3
      have HRD := Lib.hid ((hrd0.below HBL5.out).more HBL5.out.size)
      have hnb := HEO.out.nums.1
      obtain ⟨i0, hi1, hi2, hi3, hi4⟩ := info_parts infoI64
      dsimp only at hnb
      clear hrd0
      go_wp2_with (at_builtin; refine wpList_append_any _ rfl (.tmp 91) (.tmp 93) 55 rfl W5.heap.size 2 i0 (.int .i64 0) 1 8 Tryz.underlying55 hi1 hi2 hi3 hi4 rfl (by decide) _ 0 [] rfl (World.ownsRow_nil _ _ _ _) W5.heap.size Y0 cn.length z0 (cn.map (Value.int .i64)) rfl ?c21 ?c22 ?c23 ?c24 ?c25 ?_)
      case c21 => exact HRD.out
      case c22 => intro u hu; rfl
      case c23 => unfold maxLen; omega
      case c24 => omega
      intro v1 w6 ho1 hg1 _
      replace ho1 : w6.ownsRow W5.heap.size 2 1 v1 cn.length (cn.map (Value.int .i64)) := by simpa using ho1
      have hb6 : Below W5.heap.size W5 w6 := (Below.refl _ W5).grown hg1 (Nat.le_refl _) (fun r e => by simp [Value.ownBlock] at e)
      have HAT := Lib.hid (nums_cells ho1)
      obtain ⟨Y, z2, rfl, _, _⟩ := at_slice HAT.out
      have BE6 := Lib.hid (BE5.out.below hb6 hgl)
      have HB6 := Lib.hid hb6
      have g1 : w6.cell? ⟨gE, 2, none⟩ = some (.slice none 0 0) := BE6.out.cell 2
      have j1 : w6.frozen? ⟨gE, 2, none⟩ = false := BE6.out.frozen 2
      have hz6 : gE < w6.heap.size := BE6.out.lt
      clear ho1 hg1 hb6 q0 q2 q3 q4 hi1 hi2 hi3 hi4
      go_upto_region 25 with fail
      have HOB8 : Hid (Below wo.heap.size wo (w6.setCell ⟨gE, 2, none⟩ (.slice Y cn.length z2))) := Lib.hid (((HOB5.out.trans (HB6.out.mono (by omega)))).setCell (by show wo.heap.size ≤ gE; omega) _)
      have BE8 : Hid (Blk (w6.setCell ⟨gE, 2, none⟩ (.slice Y cn.length z2)) gE 68 #[.string f0, .string ct, .slice Y cn.length z2]) := Lib.hid (BE6.out.set_ 2 _)
      have HN8 : Hid (T.At bare (w6.setCell ⟨gE, 2, none⟩ (.slice Y cn.length z2)) (fun h => wo.heap.size ≤ h ∧ CellsAt (w6.setCell ⟨gE, 2, none⟩ (.slice Y cn.length z2)) h) (numsT .i64 cn) (.slice Y cn.length z2)) := Lib.hid (At.keep (fun _ _ => rfl) (fun g hg => ⟨by have := hg.1; omega, hg.2⟩) (at_far HAT.out (p := ⟨gE, 2, none⟩) rfl hgl (.slice Y cn.length z2)))
      clear g1 j1 HAT
      generalize w6.setCell ⟨gE, 2, none⟩ (.slice Y cn.length z2) = W8 at *
      have BD9 := Lib.hid (HBD.out.below HOB8.out hfar2)
      have e0 : W8.cell? ⟨gE, 0, none⟩ = some (.string f0) := BE8.out.cell 0
      have e1 : W8.cell? ⟨gE, 1, none⟩ = some (.string ct) := BE8.out.cell 1
      have e2 : W8.cell? ⟨gE, 2, none⟩ = some (.slice Y cn.length z2) := BE8.out.cell 2
      have e3 : W8.cell? ⟨gd, 0, none⟩ = some (.slice Ao pre.length co) := BD9.out.cell 0
      have hz9 : wo.heap.size ≤ W8.heap.size := HOB8.out.size
      obtain ⟨j0, hj1, hj2, hj3, hj4⟩ := info_parts infoE
      obtain ⟨xs, hxo, hxa⟩ := HROW.out
      have HXA := Lib.hid hxa; have HXO := Lib.hid hxo
      have hown := own_below hxo HOB8.out
      have hpk : pre.length ≤ k := Nat.le_of_eq HPL.out
      clear hxa hxo
      go_wp2_with (at_builtin; refine wpList_append_any _ rfl (.tmp 97) (.tmp 99) 28 rfl gd 68 j0 _ 3 56 Tryz.underlying28 hj1 hj2 hj3 hj4 rfl (by decide) _ _ xs rfl (hown.alloc _) (W8.heap.size + 1) (some ⟨W8.heap.size, 0, none⟩) 1 1 [.string f0, .string ct, .slice Y cn.length z2] rfl ?dk21 ?dk22 ?dk23 ?dk24 ?dk25 ?_)
      case dk21 => exact ⟨rfl, fun _ => ⟨_, rfl, by simp, fun j u hu => cells_new W8 [.string f0, .string ct, .slice Y cn.length z2] _ j u hu⟩⟩
      case dk22 => first | exact ⟨rfl, rfl, rfl⟩ | (intro u hu; simp only [List.mem_cons, List.not_mem_nil, or_false] at hu; rcases hu with rfl | rfl | rfl <;> rfl)
      case dk23 => unfold maxLen; omega
      case dk24 => omega
      case dk25 => first | omega | (simp; omega)
      intro v' wA ho hg hv
      obtain ⟨g', cap', rfl⟩ := ownsRow_succ ho
      have HRG : Hid (RowG bare 68 3 ecells (some gd) gd wA (.slice (some ⟨g', 0, none⟩) (pre.length + 1) cap') (pre ++ [(⟨f0, ct, cn⟩ : ET)])) := Lib.hid (by
        refine rowG_step (us := [.string f0, .string ct, .slice Y cn.length z2]) (wr := wo) (w3 := W8.alloc (.cells #[.string f0, .string ct, .slice Y cn.length z2] 68)) (by omega) (fun b h => by cases h; exact hfar2) HXO.out HXA.out ?_ (HOB8.out.alloc hz9 _) ho hg (by simpa using hv)
        refine ecells_mk (At.keep (fun p hp => World.cell?_alloc_lt _ _ _ hp.2.lt) (fun g h => ⟨h.1, h.2.below (Below.alloc (Below.refl _ _) (Nat.le_refl _) _) h.2.lt⟩) HN8.out))
      have hkb : ∀ {g : Nat} {cs : Array Value} {t : TypeId}, Blk W8 g t cs → 68 ≠ t → Blk wA g t cs := fun h hne => (h.alloc _).grown hg (fun e => own_blk_ne hown h hne e.symm)
      have hbs9 := hkb (HBS.out.below HOB8.out (by omega)) (by decide)
      have hbr9 := hkb (HBR.out.below HOB8.out (by omega)) (by decide)
      have hbd9 := hkb BD9.out (by decide)
      have hnr : (Value.slice (some ⟨g', 0, none⟩) (pre.length + 1) cap').ownBlock ≠ some gd := own_blk_ne ho hbd9 (by decide)
      have HBLA : Hid (Below w.heap.size w wA) := Lib.hid (((HBL.out.trans (HOB8.out.mono hsz)).alloc (by omega) _).grown hg (by simp; omega) (fun r h => by have := (hown.lt r h).1; omega))
      have hza : gd < wA.heap.size := hbd9.lt
      have f0' : wA.cell? ⟨gd, 0, none⟩ = some (.slice Ao pre.length co) := hbd9.cell 0
      have f1' : wA.frozen? ⟨gd, 0, none⟩ = false := hbd9.frozen 0
      have HST : Hid (BackSt w (.slice (some sd) l.length cA) l cs R gd (k + 1) (wA.setCell ⟨gd, 0, none⟩ (.slice (some ⟨g', 0, none⟩) (pre.length + 1) cap'))) := Lib.hid (by
        refine ⟨⟨pre ++ [(⟨f0, ct, cn⟩ : ET)], .slice (some ⟨g', 0, none⟩) (pre.length + 1) cap', ?_, by simp [HPL.out], rowG_set HRG.out hnr _, hbd9.set_ 0 _⟩, hbs9.far (p := ⟨gd, 0, none⟩) (by show w.heap.size ≠ gd; omega) _, hbr9.far (p := ⟨gd, 0, none⟩) (by show w.heap.size + 1 ≠ gd; omega) _, HBLA.out.setCell (by show w.heap.size ≤ gd; omega) _, hfar1, by simpa [World.setCell] using hza⟩
        have := HGN.out
        rw [HBE.out] at this
        exact this)
      clear ho hg hv hkb hbs9 hbr9 hbd9 hnr hown e0 e1 e2 e3 HRG HXA HXO
      go_wp2_with fail
      go_roundw
      case rel => exact ⟨k + 1, by omega, by go_num, HST⟩
      case measure => simp [intOf]; omega
    · have hw : wantC ⟨f0, 3, f2, f3, f4, f5, f6⟩ = 1 := rfl
      rw [hw] at HBI
      obtain ⟨hl1, hl2⟩ | ⟨hl1, hl2⟩ := neqn cn.length 1
      rotate_left
      · have HER : Hid (R = .error 82) := Lib.hid (by have := HGN.out; rw [HBI.out, if_pos (.inl hl1)] at this; exact this.symm)
        clear HGN HBI hl1
        go_wp2_with fail
        have cz : (W4.setCell ⟨w.heap.size + 1, 0, none⟩ (.slice none 0 0)).cell? ⟨w.heap.size + 1, 0, none⟩ = some (.slice none 0 0) := (HBR4.out.set_ 0 _).cell 0
        have HBZ : Hid (Below w.heap.size w (W4.setCell ⟨w.heap.size + 1, 0, none⟩ (.slice none 0 0))) := Lib.hid (HBL4.out.setCell (by show w.heap.size ≤ w.heap.size + 1; omega) _)
        generalize W4.setCell ⟨w.heap.size + 1, 0, none⟩ (.slice none 0 0) = WZ at *
        refine bodyPost_ret (v := .tuple #[.agg #[.slice none 0 0], .int .i64 82]) (by simp [results, Tryz.results12, go_sem, cz]; try rfl) rfl ?_
        rw [HCF.out, HER.out]
        exact ⟨HBZ.out, rfl⟩
      obtain ⟨t0, t1⟩ | ⟨t0, t1⟩ := empty_ways ct
      rotate_left
      · have HER : Hid (R = .error 82) := Lib.hid (by have := HGN.out; rw [HBI.out, if_pos (.inr ⟨by omega, by omega⟩)] at this; exact this.symm)
        clear HGN HBI hl1 t0
        go_wp2_with fail
        have cz : (W4.setCell ⟨w.heap.size + 1, 0, none⟩ (.slice none 0 0)).cell? ⟨w.heap.size + 1, 0, none⟩ = some (.slice none 0 0) := (HBR4.out.set_ 0 _).cell 0
        have HBZ : Hid (Below w.heap.size w (W4.setCell ⟨w.heap.size + 1, 0, none⟩ (.slice none 0 0))) := Lib.hid (HBL4.out.setCell (by show w.heap.size ≤ w.heap.size + 1; omega) _)
        generalize W4.setCell ⟨w.heap.size + 1, 0, none⟩ (.slice none 0 0) = WZ at *
        refine bodyPost_ret (v := .tuple #[.agg #[.slice none 0 0], .int .i64 82]) (by simp [results, Tryz.results12, go_sem, cz]; try rfl) rfl ?_
        rw [HCF.out, HER.out]
        exact ⟨HBZ.out, rfl⟩
      have HBE : Hid (backE txtO l ⟨i, ct, cn⟩ = .ok ⟨f0, ct, cn⟩) := Lib.hid (by rw [HBI.out, if_neg (by rintro (h | ⟨h, h2⟩); exact h hl1; omega), if_neg (by decide)])
      clear HBI hl1 t0
      go_upto_region 21 with fail
      obtain ⟨gE, hgE⟩ : ∃ gE, gE = W4.heap.size := ⟨_, rfl⟩
      have BE5 : Hid (Blk (W4.alloc (.cells #[.string f0, .string ct, .slice none 0 0] 68)) gE 68 #[.string f0, .string ct, .slice none 0 0]) := Lib.hid (by subst hgE; exact Blk.new W4 _ _)
      have HB5 : Hid (Below W4.heap.size W4 (W4.alloc (.cells #[.string f0, .string ct, .slice none 0 0] 68))) := Lib.hid ((Below.refl _ W4).alloc (Nat.le_refl _) _)
      clear p0 p1 p2 p3 p4 p5 p6 q1 q2 r2 r3
      rw [← hgE]
      generalize W4.alloc (.cells #[.string f0, .string ct, .slice none 0 0] 68) = W5 at *
      have hgl : gE < W5.heap.size := BE5.out.lt
      have hge : W4.heap.size ≤ gE := by omega
      have HOB5 : Hid (Below wo.heap.size wo W5) := Lib.hid (HOB.out.trans (HB5.out.mono (by omega)))
      have HBL5 : Hid (Below w.heap.size w W5) := Lib.hid (HBL.out.trans (HOB5.out.mono hsz))
      have BF5 := Lib.hid (BF.out.below HB5.out BF.out.lt); have BC5 := Lib.hid (BC4.out.below HB5.out BC4.out.lt)
      have hz5 := HB5.out.size
      have q0 : W5.cell? ⟨W3.heap.size, 1, none⟩ = some (.int .i64 3) := BF5.out.cell 1
      have q2 : W5.cell? ⟨wo.heap.size, 2, none⟩ = some (.slice Y0 cn.length z0) := BC5.out.cell 2
      have q3 : W5.cell? ⟨gE, 2, none⟩ = some (.slice none 0 0) := BE5.out.cell 2
      have q4 : W5.frozen? ⟨gE, 2, none⟩ = false := BE5.out.frozen 2
      clear hgE
      obtain ⟨_, _, he0, _, _, hrd0⟩ := at_nums HEC.out
      injection he0 with ee1 _ ee3
      subst ee1 ee3
      have HRD := Lib.hid ((hrd0.below HBL5.out).more HBL5.out.size)
      have hnb := HEO.out.nums.1
      obtain ⟨i0, hi1, hi2, hi3, hi4⟩ := info_parts infoI64
      dsimp only at hnb
      clear hrd0
      go_wp2_with (at_builtin; refine wpList_append_any _ rfl (.tmp 91) (.tmp 93) 55 rfl W5.heap.size 2 i0 (.int .i64 0) 1 8 Tryz.underlying55 hi1 hi2 hi3 hi4 rfl (by decide) _ 0 [] rfl (World.ownsRow_nil _ _ _ _) W5.heap.size Y0 cn.length z0 (cn.map (Value.int .i64)) rfl ?c31 ?c32 ?c33 ?c34 ?c35 ?_)
      case c31 => exact HRD.out
      case c32 => intro u hu; rfl
      case c33 => unfold maxLen; omega
      case c34 => omega
      intro v1 w6 ho1 hg1 _
      replace ho1 : w6.ownsRow W5.heap.size 2 1 v1 cn.length (cn.map (Value.int .i64)) := by simpa using ho1
      have hb6 : Below W5.heap.size W5 w6 := (Below.refl _ W5).grown hg1 (Nat.le_refl _) (fun r e => by simp [Value.ownBlock] at e)
      have HAT := Lib.hid (nums_cells ho1)
      obtain ⟨Y, z2, rfl, _, _⟩ := at_slice HAT.out
      have BE6 := Lib.hid (BE5.out.below hb6 hgl)
      have HB6 := Lib.hid hb6
      have g1 : w6.cell? ⟨gE, 2, none⟩ = some (.slice none 0 0) := BE6.out.cell 2
      have j1 : w6.frozen? ⟨gE, 2, none⟩ = false := BE6.out.frozen 2
      have hz6 : gE < w6.heap.size := BE6.out.lt
      clear ho1 hg1 hb6 q0 q2 q3 q4 hi1 hi2 hi3 hi4
      go_upto_region 25 with fail
      have HOB8 : Hid (Below wo.heap.size wo (w6.setCell ⟨gE, 2, none⟩ (.slice Y cn.length z2))) := Lib.hid (((HOB5.out.trans (HB6.out.mono (by omega)))).setCell (by show wo.heap.size ≤ gE; omega) _)
      have BE8 : Hid (Blk (w6.setCell ⟨gE, 2, none⟩ (.slice Y cn.length z2)) gE 68 #[.string f0, .string ct, .slice Y cn.length z2]) := Lib.hid (BE6.out.set_ 2 _)
      have HN8 : Hid (T.At bare (w6.setCell ⟨gE, 2, none⟩ (.slice Y cn.length z2)) (fun h => wo.heap.size ≤ h ∧ CellsAt (w6.setCell ⟨gE, 2, none⟩ (.slice Y cn.length z2)) h) (numsT .i64 cn) (.slice Y cn.length z2)) := Lib.hid (At.keep (fun _ _ => rfl) (fun g hg => ⟨by have := hg.1; omega, hg.2⟩) (at_far HAT.out (p := ⟨gE, 2, none⟩) rfl hgl (.slice Y cn.length z2)))
      clear g1 j1 HAT
      generalize w6.setCell ⟨gE, 2, none⟩ (.slice Y cn.length z2) = W8 at *
      have BD9 := Lib.hid (HBD.out.below HOB8.out hfar2)
      have e0 : W8.cell? ⟨gE, 0, none⟩ = some (.string f0) := BE8.out.cell 0
      have e1 : W8.cell? ⟨gE, 1, none⟩ = some (.string ct) := BE8.out.cell 1
      have e2 : W8.cell? ⟨gE, 2, none⟩ = some (.slice Y cn.length z2) := BE8.out.cell 2
      have e3 : W8.cell? ⟨gd, 0, none⟩ = some (.slice Ao pre.length co) := BD9.out.cell 0
      have hz9 : wo.heap.size ≤ W8.heap.size := HOB8.out.size
      obtain ⟨j0, hj1, hj2, hj3, hj4⟩ := info_parts infoE
      obtain ⟨xs, hxo, hxa⟩ := HROW.out
      have HXA := Lib.hid hxa; have HXO := Lib.hid hxo
      have hown := own_below hxo HOB8.out
      have hpk : pre.length ≤ k := Nat.le_of_eq HPL.out
      clear hxa hxo
      go_wp2_with (at_builtin; refine wpList_append_any _ rfl (.tmp 97) (.tmp 99) 28 rfl gd 68 j0 _ 3 56 Tryz.underlying28 hj1 hj2 hj3 hj4 rfl (by decide) _ _ xs rfl (hown.alloc _) (W8.heap.size + 1) (some ⟨W8.heap.size, 0, none⟩) 1 1 [.string f0, .string ct, .slice Y cn.length z2] rfl ?dk31 ?dk32 ?dk33 ?dk34 ?dk35 ?_)
      case dk31 => exact ⟨rfl, fun _ => ⟨_, rfl, by simp, fun j u hu => cells_new W8 [.string f0, .string ct, .slice Y cn.length z2] _ j u hu⟩⟩
      case dk32 => first | exact ⟨rfl, rfl, rfl⟩ | (intro u hu; simp only [List.mem_cons, List.not_mem_nil, or_false] at hu; rcases hu with rfl | rfl | rfl <;> rfl)
      case dk33 => unfold maxLen; omega
      case dk34 => omega
      case dk35 => first | omega | (simp; omega)
      intro v' wA ho hg hv
      obtain ⟨g', cap', rfl⟩ := ownsRow_succ ho
      have HRG : Hid (RowG bare 68 3 ecells (some gd) gd wA (.slice (some ⟨g', 0, none⟩) (pre.length + 1) cap') (pre ++ [(⟨f0, ct, cn⟩ : ET)])) := Lib.hid (by
        refine rowG_step (us := [.string f0, .string ct, .slice Y cn.length z2]) (wr := wo) (w3 := W8.alloc (.cells #[.string f0, .string ct, .slice Y cn.length z2] 68)) (by omega) (fun b h => by cases h; exact hfar2) HXO.out HXA.out ?_ (HOB8.out.alloc hz9 _) ho hg (by simpa using hv)
        refine ecells_mk (At.keep (fun p hp => World.cell?_alloc_lt _ _ _ hp.2.lt) (fun g h => ⟨h.1, h.2.below (Below.alloc (Below.refl _ _) (Nat.le_refl _) _) h.2.lt⟩) HN8.out))
      have hkb : ∀ {g : Nat} {cs : Array Value} {t : TypeId}, Blk W8 g t cs → 68 ≠ t → Blk wA g t cs := fun h hne => (h.alloc _).grown hg (fun e => own_blk_ne hown h hne e.symm)
      have hbs9 := hkb (HBS.out.below HOB8.out (by omega)) (by decide)
      have hbr9 := hkb (HBR.out.below HOB8.out (by omega)) (by decide)
      have hbd9 := hkb BD9.out (by decide)
      have hnr : (Value.slice (some ⟨g', 0, none⟩) (pre.length + 1) cap').ownBlock ≠ some gd := own_blk_ne ho hbd9 (by decide)
      have HBLA : Hid (Below w.heap.size w wA) := Lib.hid (((HBL.out.trans (HOB8.out.mono hsz)).alloc (by omega) _).grown hg (by simp; omega) (fun r h => by have := (hown.lt r h).1; omega))
      have hza : gd < wA.heap.size := hbd9.lt
      have f0' : wA.cell? ⟨gd, 0, none⟩ = some (.slice Ao pre.length co) := hbd9.cell 0
      have f1' : wA.frozen? ⟨gd, 0, none⟩ = false := hbd9.frozen 0
      have HST : Hid (BackSt w (.slice (some sd) l.length cA) l cs R gd (k + 1) (wA.setCell ⟨gd, 0, none⟩ (.slice (some ⟨g', 0, none⟩) (pre.length + 1) cap'))) := Lib.hid (by
        refine ⟨⟨pre ++ [(⟨f0, ct, cn⟩ : ET)], .slice (some ⟨g', 0, none⟩) (pre.length + 1) cap', ?_, by simp [HPL.out], rowG_set HRG.out hnr _, hbd9.set_ 0 _⟩, hbs9.far (p := ⟨gd, 0, none⟩) (by show w.heap.size ≠ gd; omega) _, hbr9.far (p := ⟨gd, 0, none⟩) (by show w.heap.size + 1 ≠ gd; omega) _, HBLA.out.setCell (by show w.heap.size ≤ gd; omega) _, hfar1, by simpa [World.setCell] using hza⟩
        have := HGN.out
        rw [HBE.out] at this
        exact this)
      clear ho hg hv hkb hbs9 hbr9 hbd9 hnr hown e0 e1 e2 e3 HRG HXA HXO
      go_wp2_with fail
      go_roundw
      case rel => exact ⟨k + 1, by omega, by go_num, HST⟩
      case measure => simp [intOf]; omega
    · have hw : wantC ⟨f0, 4, f2, f3, f4, f5, f6⟩ = 1 := rfl
      rw [hw] at HBI
      obtain ⟨hl1, hl2⟩ | ⟨hl1, hl2⟩ := neqn cn.length 1
      rotate_left
      · have HER : Hid (R = .error 82) := Lib.hid (by have := HGN.out; rw [HBI.out, if_pos (.inl hl1)] at this; exact this.symm)
        clear HGN HBI hl1
        go_wp2_with fail
        have cz : (W4.setCell ⟨w.heap.size + 1, 0, none⟩ (.slice none 0 0)).cell? ⟨w.heap.size + 1, 0, none⟩ = some (.slice none 0 0) := (HBR4.out.set_ 0 _).cell 0
        have HBZ : Hid (Below w.heap.size w (W4.setCell ⟨w.heap.size + 1, 0, none⟩ (.slice none 0 0))) := Lib.hid (HBL4.out.setCell (by show w.heap.size ≤ w.heap.size + 1; omega) _)
        generalize W4.setCell ⟨w.heap.size + 1, 0, none⟩ (.slice none 0 0) = WZ at *
        refine bodyPost_ret (v := .tuple #[.agg #[.slice none 0 0], .int .i64 82]) (by simp [results, Tryz.results12, go_sem, cz]; try rfl) rfl ?_
        rw [HCF.out, HER.out]
        exact ⟨HBZ.out, rfl⟩
      obtain ⟨t0, t1⟩ | ⟨t0, t1⟩ := empty_ways ct
      rotate_left
      · have HER : Hid (R = .error 82) := Lib.hid (by have := HGN.out; rw [HBI.out, if_pos (.inr ⟨by omega, by omega⟩)] at this; exact this.symm)
        clear HGN HBI hl1 t0
        go_wp2_with fail
        have cz : (W4.setCell ⟨w.heap.size + 1, 0, none⟩ (.slice none 0 0)).cell? ⟨w.heap.size + 1, 0, none⟩ = some (.slice none 0 0) := (HBR4.out.set_ 0 _).cell 0
        have HBZ : Hid (Below w.heap.size w (W4.setCell ⟨w.heap.size + 1, 0, none⟩ (.slice none 0 0))) := Lib.hid (HBL4.out.setCell (by show w.heap.size ≤ w.heap.size + 1; omega) _)
        generalize W4.setCell ⟨w.heap.size + 1, 0, none⟩ (.slice none 0 0) = WZ at *
        refine bodyPost_ret (v := .tuple #[.agg #[.slice none 0 0], .int .i64 82]) (by simp [results, Tryz.results12, go_sem, cz]; try rfl) rfl ?_
        rw [HCF.out, HER.out]
        exact ⟨HBZ.out, rfl⟩
      have hl3 : cn.length = 1 := by exact_mod_cast hl1
      obtain ⟨n, rfl⟩ : ∃ n, cn = [n] := List.length_eq_one_iff.1 hl3
      have HBE : Hid (backE txtO l ⟨i, ct, [n]⟩ = .ok ⟨f0, str (OrdLib.txtS n f3), []⟩) := Lib.hid (by rw [HBI.out, if_neg (by rintro (h | ⟨h, h2⟩); exact h hl1; omega), if_pos rfl]; rfl)
      clear HBI hl1 hl3 t0
      have hnl : ([n] : List Int).length = 1 := rfl
      go_upto_region 21 with fail
      obtain ⟨gE, hgE⟩ : ∃ gE, gE = W4.heap.size := ⟨_, rfl⟩
      have BE5 : Hid (Blk (W4.alloc (.cells #[.string f0, .string ct, .slice none 0 0] 68)) gE 68 #[.string f0, .string ct, .slice none 0 0]) := Lib.hid (by subst hgE; exact Blk.new W4 _ _)
      have HB5 : Hid (Below W4.heap.size W4 (W4.alloc (.cells #[.string f0, .string ct, .slice none 0 0] 68))) := Lib.hid ((Below.refl _ W4).alloc (Nat.le_refl _) _)
      clear p0 p1 p2 p3 p4 p5 p6 q1 q2 r2 r3
      rw [← hgE]
      generalize W4.alloc (.cells #[.string f0, .string ct, .slice none 0 0] 68) = W5 at *
      have hgl : gE < W5.heap.size := BE5.out.lt
      have hge : W4.heap.size ≤ gE := by omega
      have HOB5 : Hid (Below wo.heap.size wo W5) := Lib.hid (HOB.out.trans (HB5.out.mono (by omega)))
      have HBL5 : Hid (Below w.heap.size w W5) := Lib.hid (HBL.out.trans (HOB5.out.mono hsz))
      have BF5 := Lib.hid (BF.out.below HB5.out BF.out.lt); have BC5 := Lib.hid (BC4.out.below HB5.out BC4.out.lt)
      have hz5 := HB5.out.size
      have q0 : W5.cell? ⟨W3.heap.size, 1, none⟩ = some (.int .i64 4) := BF5.out.cell 1
      have q2 : W5.cell? ⟨wo.heap.size, 2, none⟩ = some (.slice Y0 [n].length z0) := BC5.out.cell 2
      have q3 : W5.cell? ⟨gE, 2, none⟩ = some (.slice none 0 0) := BE5.out.cell 2
      have q4 : W5.frozen? ⟨gE, 2, none⟩ = false := BE5.out.frozen 2
      clear hgE
      go_upto_region 22 with fail
      obtain ⟨_, _, he0, _, _, hrd0⟩ := at_nums HEC.out
      injection he0 with ee1 _ ee3
      subst ee1 ee3
      obtain ⟨ad0, u0, rfl, hb0, hu0, hc0⟩ := hrd0.at_ (k := 0) (by simp)
      obtain rfl : u0 = .int .i64 n := by simpa using hu0.symm
      have HC0 : Hid (w.cell? ad0 = some (.int .i64 n)) := Lib.hid (by
        have : ad0.add 0 = ad0 := by unfold Addr.add; cases ad0; split <;> simp_all
        rwa [this] at hc0)
      have hni : I64 n := HEO.out.nums.2 n (by simp)
      have HTX := Lib.hid (fun (V : World) (hV : Below W5.heap.size W5 V) => OrdLib.refText_any n f3 V hni.1 hni.2)
      clear q0 q2 q3 q4 hrd0 hc0 hu0 hni
      refine wp_region_held_drew (S := fun V => Below W5.heap.size W5 V) (by kernel_rfl) (Below.refl _ _).drew (fun hS0 => ?_)
      refine' wpAnyH_take (i := 0) (v := _) (by simp only [List.getElem?_toArray, List.getElem?_cons_zero]; rfl) (by kernel_rfl) (by kernel_rfl) (by kernel_rfl) (by exact fun _ _ _ h => h) (Or.inl ⟨by rfl, ?hmt0⟩) hS0 ?rmt0
      case hmt0 => intro V hSw; clear hSw; go_simp; try with_reducible rfl
      try simp only [Act.put, List.setIfInBounds_toArray, List.set_cons_zero, List.set_cons_succ]
      refine' wpAnyH_take (i := 1) (v := _) (by simp only [List.getElem?_toArray, List.getElem?_cons_succ, List.getElem?_cons_zero]; rfl) (by kernel_rfl) (by kernel_rfl) (by kernel_rfl) (by exact fun _ _ _ h => h) (Or.inl ⟨by rfl, ?hmt1⟩) hS0 ?rmt1
      case hmt1 => intro V hSw; have fq : V.cell? ⟨wo.heap.size, 2, none⟩ = some (.slice (some ad0) [n].length z0) := (BC5.out.below hSw BC5.out.lt).cell 2; clear hSw; go_simp; try with_reducible rfl
      try simp only [Act.put, List.setIfInBounds_toArray, List.set_cons_zero, List.set_cons_succ]
      refine' wpAnyH_take (i := 2) (v := _) (by simp only [List.getElem?_toArray, List.getElem?_cons_succ, List.getElem?_cons_zero]; rfl) (by kernel_rfl) (by kernel_rfl) (by kernel_rfl) (by exact fun _ _ _ h => h) (Or.inl ⟨by rfl, ?hmt2⟩) hS0 ?rmt2
      case hmt2 => intro V hSw; clear hSw; go_simp; try with_reducible rfl
      try simp only [Act.put, List.setIfInBounds_toArray, List.set_cons_zero, List.set_cons_succ]
      refine' wpAnyH_take (i := 3) (v := _) (by simp only [List.getElem?_toArray, List.getElem?_cons_succ, List.getElem?_cons_zero]; rfl) (by kernel_rfl) (by kernel_rfl) (by kernel_rfl) (by exact fun _ _ _ h => h) (Or.inl ⟨by rfl, ?hmt3⟩) hS0 ?rmt3
      case hmt3 => intro V hSw; have fq : V.cell? ad0 = some (.int .i64 n) := (hSw.cell (by have := HBL5.out.size; omega)).trans ((HBL5.out.cell hb0).trans HC0.out); clear hSw; go_simp; try with_reducible rfl
      try simp only [Act.put, List.setIfInBounds_toArray, List.set_cons_zero, List.set_cons_succ]
      refine' wpAnyH_take (i := 4) (v := _) (by simp only [List.getElem?_toArray, List.getElem?_cons_succ, List.getElem?_cons_zero]; rfl) (by kernel_rfl) (by kernel_rfl) (by kernel_rfl) (by exact fun _ _ _ h => h) (Or.inl ⟨by rfl, ?hmt4⟩) hS0 ?rmt4
      case hmt4 => intro V hSw; clear hSw; go_simp; try with_reducible rfl
      try simp only [Act.put, List.setIfInBounds_toArray, List.set_cons_zero, List.set_cons_succ]
      refine' wpAnyH_take (i := 5) (v := _) (by simp only [List.getElem?_toArray, List.getElem?_cons_succ, List.getElem?_cons_zero]; rfl) (by kernel_rfl) (by kernel_rfl) (by kernel_rfl) (by exact fun _ _ _ h => h) (Or.inl ⟨by rfl, ?hmt5⟩) hS0 ?rmt5
      case hmt5 => intro V hSw; have fq : V.cell? ⟨W3.heap.size, 3, none⟩ = some (.int .i64 f3) := (BF5.out.below hSw BF5.out.lt).cell 3; clear hSw; go_simp; try with_reducible rfl
      try simp only [Act.put, List.setIfInBounds_toArray, List.set_cons_zero, List.set_cons_succ]
      refine wpAnyH_ready (rs := [6]) (by kernel_rfl) (by simp) ?_
      refine' AllReadyH.cons (by simp only [List.getElem?_toArray, List.getElem?_cons_succ, List.getElem?_cons_zero]; rfl) (fun K hK => ?_) AllReadyH.nil
      go_simp
      refine (HTX.out _ hS0).mono ?_
      rintro e' W6 ⟨rfl, hb6⟩
      have HB6 : Hid (Below W5.heap.size W5 W6) := Lib.hid (((Below.refl _ W5).drew).trans hb6)
      have hS1 : Below W5.heap.size W5 W6 := HB6.out
      have BE6 := Lib.hid (BE5.out.below HB6.out hgl)
      have g1 : W6.cell? ⟨gE, 1, none⟩ = some (.string ct) := BE6.out.cell 1
      have j1 : W6.frozen? ⟨gE, 1, none⟩ = false := BE6.out.frozen 1
      have hz6 : gE < W6.heap.size := BE6.out.lt
      clear hb6
      go_simp
      refine hK.out _ _ hS1 (fun hS2 => ?_)
      try simp only [Act.put, List.setIfInBounds_toArray, List.set_cons_zero, List.set_cons_succ]
      refine' wpAnyH_take (i := 7) (v := _) (by simp only [List.getElem?_toArray, List.getElem?_cons_succ, List.getElem?_cons_zero]; rfl) (by kernel_rfl) (by kernel_rfl) (by kernel_rfl) (by exact fun _ _ _ h => h) (Or.inl ⟨by rfl, ?hmt7⟩) hS2 ?rmt7
      case hmt7 => intro V hSw; clear hSw; go_simp; try with_reducible rfl
      try simp only [Act.put, List.setIfInBounds_toArray, List.set_cons_zero, List.set_cons_succ]
      refine' wpAnyH_take (i := 8) (v := _) (by simp only [List.getElem?_toArray, List.getElem?_cons_succ, List.getElem?_cons_zero]; rfl) (by kernel_rfl) (by kernel_rfl) (by kernel_rfl) (by exact fun _ _ _ h => h) (Or.inl ⟨by rfl, ?hmt8⟩) hS2 ?rmt8
      case hmt8 => intro V hSw; clear hSw; go_simp; try with_reducible rfl
      try simp only [Act.put, List.setIfInBounds_toArray, List.set_cons_zero, List.set_cons_succ]
      refine' wpAnyH_take (i := 9) (v := _) (by simp only [List.getElem?_toArray, List.getElem?_cons_succ, List.getElem?_cons_zero]; rfl) (by kernel_rfl) (by kernel_rfl) (by kernel_rfl) (by exact fun _ _ _ h => h) (Or.inl ⟨by rfl, ?hmt9⟩) hS2 ?rmt9
      case hmt9 => intro V hSw; clear hSw; go_simp; try with_reducible rfl
      try simp only [Act.put, List.setIfInBounds_toArray, List.set_cons_zero, List.set_cons_succ]
      refine' wpAnyH_take (i := 10) (v := _) (by simp only [List.getElem?_toArray, List.getElem?_cons_succ, List.getElem?_cons_zero]; rfl) (by kernel_rfl) (by kernel_rfl) (by kernel_rfl) (by exact fun _ _ _ h => h) (Or.inl ⟨by rfl, ?hmt10⟩) hS2 ?rmt10
      case hmt10 => intro V hSw; clear hSw; go_simp; try with_reducible rfl
      try simp only [Act.put, List.setIfInBounds_toArray, List.set_cons_zero, List.set_cons_succ]
      refine' wpAnyH_take (i := 11) (v := _) (by simp only [List.getElem?_toArray, List.getElem?_cons_succ, List.getElem?_cons_zero]; rfl) (by kernel_rfl) (by kernel_rfl) (by kernel_rfl) (by exact fun _ _ _ h => h) (Or.inl ⟨by rfl, ?hmt11⟩) hS2 ?rmt11
      case hmt11 => intro V hSw; clear hSw; go_simp; try with_reducible rfl
      try simp only [Act.put, List.setIfInBounds_toArray, List.set_cons_zero, List.set_cons_succ]
      refine wpAnyH_done (by kernel_rfl) ?_ _
      clear hK K hS2 hS1 hS0 HTX HC0
      go_upto_region 25 with fail
      have HOB8 : Hid (Below wo.heap.size wo (W6.setCell ⟨gE, 1, none⟩ (.string (str (OrdLib.txtS n f3))))) := Lib.hid (((HOB5.out.trans (HB6.out.mono (by omega)))).setCell (by show wo.heap.size ≤ gE; omega) _)
      have BE8 : Hid (Blk (W6.setCell ⟨gE, 1, none⟩ (.string (str (OrdLib.txtS n f3)))) gE 68 #[.string f0, .string (str (OrdLib.txtS n f3)), .slice none 0 0]) := Lib.hid (BE6.out.set_ 1 _)
      clear g1 j1
      generalize W6.setCell ⟨gE, 1, none⟩ (.string (str (OrdLib.txtS n f3))) = W8 at *
      have HN8 : Hid (T.At bare W8 (fun h => wo.heap.size ≤ h ∧ CellsAt W8 h) (numsT .i64 []) (.slice none 0 0)) := Lib.hid (nums_none rfl)
      have BD9 := Lib.hid (HBD.out.below HOB8.out hfar2)
      have e0 : W8.cell? ⟨gE, 0, none⟩ = some (.string f0) := BE8.out.cell 0
      have e1 : W8.cell? ⟨gE, 1, none⟩ = some (.string (str (OrdLib.txtS n f3))) := BE8.out.cell 1
      have e2 : W8.cell? ⟨gE, 2, none⟩ = some (.slice none 0 0) := BE8.out.cell 2
      have e3 : W8.cell? ⟨gd, 0, none⟩ = some (.slice Ao pre.length co) := BD9.out.cell 0
      have hz9 : wo.heap.size ≤ W8.heap.size := HOB8.out.size
      obtain ⟨j0, hj1, hj2, hj3, hj4⟩ := info_parts infoE
      obtain ⟨xs, hxo, hxa⟩ := HROW.out
      have HXA := Lib.hid hxa; have HXO := Lib.hid hxo
      have hown := own_below hxo HOB8.out
      have hpk : pre.length ≤ k := Nat.le_of_eq HPL.out
      clear hxa hxo
      go_wp2_with (at_builtin; refine wpList_append_any _ rfl (.tmp 97) (.tmp 99) 28 rfl gd 68 j0 _ 3 56 Tryz.underlying28 hj1 hj2 hj3 hj4 rfl (by decide) _ _ xs rfl (hown.alloc _) (W8.heap.size + 1) (some ⟨W8.heap.size, 0, none⟩) 1 1 [.string f0, .string (str (OrdLib.txtS n f3)), .slice none 0 0] rfl ?dk41 ?dk42 ?dk43 ?dk44 ?dk45 ?_)
      case dk41 => exact ⟨rfl, fun _ => ⟨_, rfl, by simp, fun j u hu => cells_new W8 [.string f0, .string (str (OrdLib.txtS n f3)), .slice none 0 0] _ j u hu⟩⟩
      case dk42 => first | exact ⟨rfl, rfl, rfl⟩ | (intro u hu; simp only [List.mem_cons, List.not_mem_nil, or_false] at hu; rcases hu with rfl | rfl | rfl <;> rfl)
      case dk43 => unfold maxLen; omega
      case dk44 => omega
      case dk45 => first | omega | (simp; omega)
      intro v' wA ho hg hv
      obtain ⟨g', cap', rfl⟩ := ownsRow_succ ho
      have HRG : Hid (RowG bare 68 3 ecells (some gd) gd wA (.slice (some ⟨g', 0, none⟩) (pre.length + 1) cap') (pre ++ [(⟨f0, (str (OrdLib.txtS n f3)), []⟩ : ET)])) := Lib.hid (by
        refine rowG_step (us := [.string f0, .string (str (OrdLib.txtS n f3)), .slice none 0 0]) (wr := wo) (w3 := W8.alloc (.cells #[.string f0, .string (str (OrdLib.txtS n f3)), .slice none 0 0] 68)) (by omega) (fun b h => by cases h; exact hfar2) HXO.out HXA.out ?_ (HOB8.out.alloc hz9 _) ho hg (by simpa using hv)
        refine ecells_mk (At.keep (fun p hp => World.cell?_alloc_lt _ _ _ hp.2.lt) (fun g h => ⟨h.1, h.2.below (Below.alloc (Below.refl _ _) (Nat.le_refl _) _) h.2.lt⟩) HN8.out))
      have hkb : ∀ {g : Nat} {cs : Array Value} {t : TypeId}, Blk W8 g t cs → 68 ≠ t → Blk wA g t cs := fun h hne => (h.alloc _).grown hg (fun e => own_blk_ne hown h hne e.symm)
      have hbs9 := hkb (HBS.out.below HOB8.out (by omega)) (by decide)
      have hbr9 := hkb (HBR.out.below HOB8.out (by omega)) (by decide)
      have hbd9 := hkb BD9.out (by decide)
      have hnr : (Value.slice (some ⟨g', 0, none⟩) (pre.length + 1) cap').ownBlock ≠ some gd := own_blk_ne ho hbd9 (by decide)
      have HBLA : Hid (Below w.heap.size w wA) := Lib.hid (((HBL.out.trans (HOB8.out.mono hsz)).alloc (by omega) _).grown hg (by simp; omega) (fun r h => by have := (hown.lt r h).1; omega))
      have hza : gd < wA.heap.size := hbd9.lt
      have f0' : wA.cell? ⟨gd, 0, none⟩ = some (.slice Ao pre.length co) := hbd9.cell 0
      have f1' : wA.frozen? ⟨gd, 0, none⟩ = false := hbd9.frozen 0
      have HST : Hid (BackSt w (.slice (some sd) l.length cA) l cs R gd (k + 1) (wA.setCell ⟨gd, 0, none⟩ (.slice (some ⟨g', 0, none⟩) (pre.length + 1) cap'))) := Lib.hid (by
        refine ⟨⟨pre ++ [(⟨f0, (str (OrdLib.txtS n f3)), []⟩ : ET)], .slice (some ⟨g', 0, none⟩) (pre.length + 1) cap', ?_, by simp [HPL.out], rowG_set HRG.out hnr _, hbd9.set_ 0 _⟩, hbs9.far (p := ⟨gd, 0, none⟩) (by show w.heap.size ≠ gd; omega) _, hbr9.far (p := ⟨gd, 0, none⟩) (by show w.heap.size + 1 ≠ gd; omega) _, HBLA.out.setCell (by show w.heap.size ≤ gd; omega) _, hfar1, by simpa [World.setCell] using hza⟩
        have := HGN.out
        rw [HBE.out] at this
        exact this)
      clear ho hg hv hkb hbs9 hbr9 hbd9 hnr hown e0 e1 e2 e3 HRG HXA HXO
      go_wp2_with fail
      go_roundw
      case rel => exact ⟨k + 1, by omega, by go_num, HST⟩
      case measure => simp [intOf]; omega
    · have hw : wantC ⟨f0, 5, f2, f3, f4, f5, f6⟩ = f4 := rfl
      rw [hw] at HBI
      have hdm : decide (0 < f4) = true := decide_eq_true (by omega)
      obtain ⟨hl1, hl2⟩ | ⟨hl1, hl2⟩ := neqn cn.length f4
      rotate_left
      · have HER : Hid (R = .error 82) := Lib.hid (by have := HGN.out; rw [HBI.out, if_pos (.inl hl1)] at this; exact this.symm)
        clear HGN HBI hl1
        go_wp2_with fail
        have cz : (W4.setCell ⟨w.heap.size + 1, 0, none⟩ (.slice none 0 0)).cell? ⟨w.heap.size + 1, 0, none⟩ = some (.slice none 0 0) := (HBR4.out.set_ 0 _).cell 0
        have HBZ : Hid (Below w.heap.size w (W4.setCell ⟨w.heap.size + 1, 0, none⟩ (.slice none 0 0))) := Lib.hid (HBL4.out.setCell (by show w.heap.size ≤ w.heap.size + 1; omega) _)
        generalize W4.setCell ⟨w.heap.size + 1, 0, none⟩ (.slice none 0 0) = WZ at *
        refine bodyPost_ret (v := .tuple #[.agg #[.slice none 0 0], .int .i64 82]) (by simp [results, Tryz.results12, go_sem, cz]; try rfl) rfl ?_
        rw [HCF.out, HER.out]
        exact ⟨HBZ.out, rfl⟩
      obtain ⟨t0, t1⟩ | ⟨t0, t1⟩ := empty_ways ct
      rotate_left
      · have HER : Hid (R = .error 82) := Lib.hid (by have := HGN.out; rw [HBI.out, if_pos (.inr ⟨by omega, by omega⟩)] at this; exact this.symm)
        clear HGN HBI hl1 t0 hd1 hd4
        go_wp2_with fail
        have cz : (W4.setCell ⟨w.heap.size + 1, 0, none⟩ (.slice none 0 0)).cell? ⟨w.heap.size + 1, 0, none⟩ = some (.slice none 0 0) := (HBR4.out.set_ 0 _).cell 0
        have HBZ : Hid (Below w.heap.size w (W4.setCell ⟨w.heap.size + 1, 0, none⟩ (.slice none 0 0))) := Lib.hid (HBL4.out.setCell (by show w.heap.size ≤ w.heap.size + 1; omega) _)
        generalize W4.setCell ⟨w.heap.size + 1, 0, none⟩ (.slice none 0 0) = WZ at *
        refine bodyPost_ret (v := .tuple #[.agg #[.slice none 0 0], .int .i64 82]) (by simp [results, Tryz.results12, go_sem, cz]; try rfl) rfl ?_
        rw [HCF.out, HER.out]
        exact ⟨HBZ.out, rfl⟩
      have HBE : Hid (backE txtO l ⟨i, ct, cn⟩ = .ok ⟨f0, ct, cn⟩) := Lib.hid (by rw [HBI.out, if_neg (by rintro (h | ⟨h, h2⟩); exact h hl1; omega), if_neg (by decide)])
      clear HBI hl1 t0 hd1 hd4
      go_upto_region 21 with fail
      obtain ⟨gE, hgE⟩ : ∃ gE, gE = W4.heap.size := ⟨_, rfl⟩
      have BE5 : Hid (Blk (W4.alloc (.cells #[.string f0, .string ct, .slice none 0 0] 68)) gE 68 #[.string f0, .string ct, .slice none 0 0]) := Lib.hid (by subst hgE; exact Blk.new W4 _ _)
      have HB5 : Hid (Below W4.heap.size W4 (W4.alloc (.cells #[.string f0, .string ct, .slice none 0 0] 68))) := Lib.hid ((Below.refl _ W4).alloc (Nat.le_refl _) _)
      clear p0 p1 p2 p3 p4 p5 p6 q1 q2 r2 r3
      rw [← hgE]
      generalize W4.alloc (.cells #[.string f0, .string ct, .slice none 0 0] 68) = W5 at *
      have hgl : gE < W5.heap.size := BE5.out.lt
      have hge : W4.heap.size ≤ gE := by omega
      have HOB5 : Hid (Below wo.heap.size wo W5) := Lib.hid (HOB.out.trans (HB5.out.mono (by omega)))
      have HBL5 : Hid (Below w.heap.size w W5) := Lib.hid (HBL.out.trans (HOB5.out.mono hsz))
      have BF5 := Lib.hid (BF.out.below HB5.out BF.out.lt); have BC5 := Lib.hid (BC4.out.below HB5.out BC4.out.lt)
      have hz5 := HB5.out.size
      have q0 : W5.cell? ⟨W3.heap.size, 1, none⟩ = some (.int .i64 5) := BF5.out.cell 1
      have q2 : W5.cell? ⟨wo.heap.size, 2, none⟩ = some (.slice Y0 cn.length z0) := BC5.out.cell 2
      have q3 : W5.cell? ⟨gE, 2, none⟩ = some (.slice none 0 0) := BE5.out.cell 2
      have q4 : W5.frozen? ⟨gE, 2, none⟩ = false := BE5.out.frozen 2
      clear hgE
      obtain ⟨_, _, he0, _, _, hrd0⟩ := at_nums HEC.out
      injection he0 with ee1 _ ee3
      subst ee1 ee3
      have HRD := Lib.hid ((hrd0.below HBL5.out).more HBL5.out.size)
      have hnb := HEO.out.nums.1
      obtain ⟨i0, hi1, hi2, hi3, hi4⟩ := info_parts infoI64
      dsimp only at hnb
      clear hrd0
      go_wp2_with (at_builtin; refine wpList_append_any _ rfl (.tmp 91) (.tmp 93) 55 rfl W5.heap.size 2 i0 (.int .i64 0) 1 8 Tryz.underlying55 hi1 hi2 hi3 hi4 rfl (by decide) _ 0 [] rfl (World.ownsRow_nil _ _ _ _) W5.heap.size Y0 cn.length z0 (cn.map (Value.int .i64)) rfl ?c51 ?c52 ?c53 ?c54 ?c55 ?_)
      case c51 => exact HRD.out
      case c52 => intro u hu; rfl
      case c53 => unfold maxLen; omega
      case c54 => omega
      intro v1 w6 ho1 hg1 _
      replace ho1 : w6.ownsRow W5.heap.size 2 1 v1 cn.length (cn.map (Value.int .i64)) := by simpa using ho1
      have hb6 : Below W5.heap.size W5 w6 := (Below.refl _ W5).grown hg1 (Nat.le_refl _) (fun r e => by simp [Value.ownBlock] at e)
      have HAT := Lib.hid (nums_cells ho1)
      obtain ⟨Y, z2, rfl, _, _⟩ := at_slice HAT.out
      have BE6 := Lib.hid (BE5.out.below hb6 hgl)
      have HB6 := Lib.hid hb6
      have g1 : w6.cell? ⟨gE, 2, none⟩ = some (.slice none 0 0) := BE6.out.cell 2
      have j1 : w6.frozen? ⟨gE, 2, none⟩ = false := BE6.out.frozen 2
      have hz6 : gE < w6.heap.size := BE6.out.lt
      clear ho1 hg1 hb6 q0 q2 q3 q4 hi1 hi2 hi3 hi4
      go_upto_region 25 with fail
      have HOB8 : Hid (Below wo.heap.size wo (w6.setCell ⟨gE, 2, none⟩ (.slice Y cn.length z2))) := Lib.hid (((HOB5.out.trans (HB6.out.mono (by omega)))).setCell (by show wo.heap.size ≤ gE; omega) _)
      have BE8 : Hid (Blk (w6.setCell ⟨gE, 2, none⟩ (.slice Y cn.length z2)) gE 68 #[.string f0, .string ct, .slice Y cn.length z2]) := Lib.hid (BE6.out.set_ 2 _)
      have HN8 : Hid (T.At bare (w6.setCell ⟨gE, 2, none⟩ (.slice Y cn.length z2)) (fun h => wo.heap.size ≤ h ∧ CellsAt (w6.setCell ⟨gE, 2, none⟩ (.slice Y cn.length z2)) h) (numsT .i64 cn) (.slice Y cn.length z2)) := Lib.hid (At.keep (fun _ _ => rfl) (fun g hg => ⟨by have := hg.1; omega, hg.2⟩) (at_far HAT.out (p := ⟨gE, 2, none⟩) rfl hgl (.slice Y cn.length z2)))
      clear g1 j1 HAT
      generalize w6.setCell ⟨gE, 2, none⟩ (.slice Y cn.length z2) = W8 at *
      have BD9 := Lib.hid (HBD.out.below HOB8.out hfar2)
      have e0 : W8.cell? ⟨gE, 0, none⟩ = some (.string f0) := BE8.out.cell 0
      have e1 : W8.cell? ⟨gE, 1, none⟩ = some (.string ct) := BE8.out.cell 1
      have e2 : W8.cell? ⟨gE, 2, none⟩ = some (.slice Y cn.length z2) := BE8.out.cell 2
      have e3 : W8.cell? ⟨gd, 0, none⟩ = some (.slice Ao pre.length co) := BD9.out.cell 0
      have hz9 : wo.heap.size ≤ W8.heap.size := HOB8.out.size
      obtain ⟨j0, hj1, hj2, hj3, hj4⟩ := info_parts infoE
      obtain ⟨xs, hxo, hxa⟩ := HROW.out
      have HXA := Lib.hid hxa; have HXO := Lib.hid hxo
      have hown := own_below hxo HOB8.out
      have hpk : pre.length ≤ k := Nat.le_of_eq HPL.out
      clear hxa hxo
      go_wp2_with (at_builtin; refine wpList_append_any _ rfl (.tmp 97) (.tmp 99) 28 rfl gd 68 j0 _ 3 56 Tryz.underlying28 hj1 hj2 hj3 hj4 rfl (by decide) _ _ xs rfl (hown.alloc _) (W8.heap.size + 1) (some ⟨W8.heap.size, 0, none⟩) 1 1 [.string f0, .string ct, .slice Y cn.length z2] rfl ?dk51 ?dk52 ?dk53 ?dk54 ?dk55 ?_)
      case dk51 => exact ⟨rfl, fun _ => ⟨_, rfl, by simp, fun j u hu => cells_new W8 [.string f0, .string ct, .slice Y cn.length z2] _ j u hu⟩⟩
      case dk52 => first | exact ⟨rfl, rfl, rfl⟩ | (intro u hu; simp only [List.mem_cons, List.not_mem_nil, or_false] at hu; rcases hu with rfl | rfl | rfl <;> rfl)
      case dk53 => unfold maxLen; omega
      case dk54 => omega
      case dk55 => first | omega | (simp; omega)
      intro v' wA ho hg hv
      obtain ⟨g', cap', rfl⟩ := ownsRow_succ ho
      have HRG : Hid (RowG bare 68 3 ecells (some gd) gd wA (.slice (some ⟨g', 0, none⟩) (pre.length + 1) cap') (pre ++ [(⟨f0, ct, cn⟩ : ET)])) := Lib.hid (by
        refine rowG_step (us := [.string f0, .string ct, .slice Y cn.length z2]) (wr := wo) (w3 := W8.alloc (.cells #[.string f0, .string ct, .slice Y cn.length z2] 68)) (by omega) (fun b h => by cases h; exact hfar2) HXO.out HXA.out ?_ (HOB8.out.alloc hz9 _) ho hg (by simpa using hv)
        refine ecells_mk (At.keep (fun p hp => World.cell?_alloc_lt _ _ _ hp.2.lt) (fun g h => ⟨h.1, h.2.below (Below.alloc (Below.refl _ _) (Nat.le_refl _) _) h.2.lt⟩) HN8.out))
      have hkb : ∀ {g : Nat} {cs : Array Value} {t : TypeId}, Blk W8 g t cs → 68 ≠ t → Blk wA g t cs := fun h hne => (h.alloc _).grown hg (fun e => own_blk_ne hown h hne e.symm)
      have hbs9 := hkb (HBS.out.below HOB8.out (by omega)) (by decide)
      have hbr9 := hkb (HBR.out.below HOB8.out (by omega)) (by decide)
      have hbd9 := hkb BD9.out (by decide)
      have hnr : (Value.slice (some ⟨g', 0, none⟩) (pre.length + 1) cap').ownBlock ≠ some gd := own_blk_ne ho hbd9 (by decide)
      have HBLA : Hid (Below w.heap.size w wA) := Lib.hid (((HBL.out.trans (HOB8.out.mono hsz)).alloc (by omega) _).grown hg (by simp; omega) (fun r h => by have := (hown.lt r h).1; omega))
      have hza : gd < wA.heap.size := hbd9.lt
      have f0' : wA.cell? ⟨gd, 0, none⟩ = some (.slice Ao pre.length co) := hbd9.cell 0
      have f1' : wA.frozen? ⟨gd, 0, none⟩ = false := hbd9.frozen 0
      have HST : Hid (BackSt w (.slice (some sd) l.length cA) l cs R gd (k + 1) (wA.setCell ⟨gd, 0, none⟩ (.slice (some ⟨g', 0, none⟩) (pre.length + 1) cap'))) := Lib.hid (by
        refine ⟨⟨pre ++ [(⟨f0, ct, cn⟩ : ET)], .slice (some ⟨g', 0, none⟩) (pre.length + 1) cap', ?_, by simp [HPL.out], rowG_set HRG.out hnr _, hbd9.set_ 0 _⟩, hbs9.far (p := ⟨gd, 0, none⟩) (by show w.heap.size ≠ gd; omega) _, hbr9.far (p := ⟨gd, 0, none⟩) (by show w.heap.size + 1 ≠ gd; omega) _, HBLA.out.setCell (by show w.heap.size ≤ gd; omega) _, hfar1, by simpa [World.setCell] using hza⟩
        have := HGN.out
        rw [HBE.out] at this
        exact this)
      clear ho hg hv hkb hbs9 hbr9 hbd9 hnr hown e0 e1 e2 e3 HRG HXA HXO
      go_wp2_with fail
      go_roundw
      case rel => exact ⟨k + 1, by omega, by go_num, HST⟩
      case measure => simp [intOf]; omega
end Go.Proofs.YtfckomjbgopmaaaGreatDoor.Sch
