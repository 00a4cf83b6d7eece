/- Contract: the program's Back. Written by gen_back.py. -/
import Derived.Test.YtfckomjbgopmaaaGreatDoorPack35
import Derived.Test.YtfckomjbgopmaaaGreatDoorPack36
import Derived.Deep.RegionHeld3
import Derived.Orders
set_option linter.unusedVariables false
namespace Go.Proofs.YtfckomjbgopmaaaGreatDoor.Sch
open Go.RowKit Words Tree SchP Kit Owned AnaP

set_option maxRecDepth 100000 in
set_option maxHeartbeats 100000000 in
theorem back_anyN (u x : Value) (l : List FT) (cs : List CT) (w : World) (hu : T.At bare w (fun g => g < w.heap.size) (fieldsT l) u) (hl : l.length * 72 ≤ 140737488351232) (hf : ∀ f ∈ l, FOk f)
    (hx : T.At bare w (fun g => g < w.heap.size) (cellsT cs) x) (hd : cs.length * 56 ≤ 140737488351232) (he : ∀ c ∈ cs, COk c) (hO : Lib.TabIs Tryz.prog w "internal/strconv.uint64pow10" .u64 Lib.pow10Tab) :
    Calls Tryz.prog 11 #[.agg #[u], x] w (BackRetN (backF txtO l cs) w) := by
  have HCK := Lib.hid (fun (W : World) (hW : Below w.heap.size w W) => checkS_any u l W (At.below hu hW (fun g hg => Nat.lt_of_lt_of_le hg hW.size)) hl hf)
  obtain ⟨A, cA, rfl, hcA, hmA, eA⟩ := at_row fcells_len hu
  obtain ⟨D, cD, rfl, hcD, hmD, eD⟩ := at_row ccells_len hx
  have EA := Lib.hid eA; have ED := Lib.hid eD; have HF := Lib.hid hf; have HE := Lib.hid he; have HOT := Lib.hid hO
  clear hu hx eA eD hf he hO
  cases hck : checkS l with
  | false =>
    rw [hck] at HCK
    have HCF : Hid (backF txtO l cs = .error 80) := Lib.hid (by unfold backF; rw [if_pos hck])
    have herr : errS false = 80 := rfl
    rw [herr] at HCK
    go_enter Tryz.func11, Tryz.ntmps11
    go_wp2_with fail
    refine (HCK.out _ (below2 _ _)).mono ?_
    rintro e' W1 ⟨rfl, b1⟩
    have HB1 := Lib.hid ((below2 _ _).trans (b1.mono (by simp; omega)) : Below w.heap.size w W1)
    have BB := Lib.hid ((blk_b w #[.slice A l.length cA] #[.slice none 0 0] 24 30).below b1 (by simp))
    have c0 := BB.out.cell 0
    have c1 := BB.out.frozen 0
    clear b1
    go_wp2_with fail
    have cz : (W1.setCell ⟨w.heap.size + 1, 0, none⟩ (.slice none 0 0)).cell? ⟨w.heap.size + 1, 0, none⟩ = some (.slice none 0 0) := (BB.out.set_ 0 _).cell 0
    have HBZ : Hid (Below w.heap.size w (W1.setCell ⟨w.heap.size + 1, 0, none⟩ (.slice none 0 0))) := Lib.hid (HB1.out.setCell (by show w.heap.size ≤ w.heap.size + 1; omega) _)
    generalize W1.setCell ⟨w.heap.size + 1, 0, none⟩ (.slice none 0 0) = WZ at *
    refine bodyPost_ret (v := .tuple #[.agg #[.slice none 0 0], .int .i64 80]) (by simp [results, Tryz.results11, go_sem, cz]; try rfl) rfl ?_
    rw [HCF.out]
    exact ⟨HBZ.out, rfl⟩
  | true =>
  rw [hck] at HCK
  have herr : errS true = 0 := rfl
  rw [herr] at HCK
  obtain ⟨R, hR⟩ : ∃ R, backGo txtO l cs = R := ⟨_, rfl⟩
  have HCF : Hid (backF txtO l cs = R) := Lib.hid ((backF_yes hck).trans hR)
  go_enter Tryz.func11, Tryz.ntmps11
  go_wp2_with fail
  refine (HCK.out _ (below2 _ _)).mono ?_
  rintro e' W1 ⟨rfl, b1⟩
  have HB1 := Lib.hid ((below2 _ _).trans (b1.mono (by simp; omega)) : Below w.heap.size w W1)
  have BA := Lib.hid ((blk_a w #[.slice A l.length cA] #[.slice none 0 0] 24 30).below b1 (by simp; omega))
  have BB := Lib.hid ((blk_b w #[.slice A l.length cA] #[.slice none 0 0] 24 30).below b1 (by simp))
  have hz1 : w.heap.size + 2 ≤ W1.heap.size := BB.out.lt
  clear b1
  go_wp2_with fail
  obtain ⟨gd, hgd⟩ : ∃ gd, gd = W1.heap.size := ⟨_, rfl⟩
  have HS0 : Hid (BackStN w (.slice A l.length cA) l cs R gd 0 (W1.alloc (.cells #[.slice none 0 0] 30))) := Lib.hid (by
    subst hgd
    refine ⟨⟨[], .slice none 0 0, ?_, rfl, rowN_nil (by simp), Blk.new _ _ _⟩, BA.out.alloc _, BB.out.alloc _, HB1.out.alloc HB1.out.size _, by omega, by simp⟩
    rw [← hR, List.drop_zero]
    cases backGo txtO l cs <;> rfl)
  rw [← hgd] at *
  generalize W1.alloc (.cells #[.slice none 0 0] 30) = W2 at *
  clear hR BA BB HB1
  go_loopw [20] (fun i wr => ∃ k : Nat, k ≤ cs.length ∧ i = .int .i64 k ∧ Hid (BackStN w (.slice A l.length cA) l cs R gd k wr)) (fun i _ => cs.length - (intOf i).toNat)
  case atStart => exact ⟨0, by omega, rfl, HS0⟩
  case round =>
    obtain ⟨k, hk, rfl, HS⟩ := hrel
    obtain ⟨wo, hwo⟩ : ∃ wo : World, wo = wr := ⟨_, rfl⟩
    subst hwo
    obtain ⟨⟨pre, v, hgo, hpl, hrow, hbd⟩, hbs, hbr, hbel, hfar1, hfar2⟩ := HS.out
    have HGO := Lib.hid hgo; have HPL := Lib.hid hpl; have HROW := Lib.hid hrow; have HBD := Lib.hid hbd; have HBS := Lib.hid hbs; have HBR := Lib.hid hbr; have HBL := Lib.hid hbel
    have hsz := hbel.size
    have hcd : wo.cell? ⟨gd, 0, none⟩ = some v := hbd.cell 0
    have hcr : wo.cell? ⟨w.heap.size + 1, 0, none⟩ = some (.slice none 0 0) := hbr.cell 0
    have hfr : wo.frozen? ⟨w.heap.size + 1, 0, none⟩ = false := hbr.frozen 0
    obtain ⟨Ao, co, rfl, _, _⟩ := at_slice (rowN_entries hrow)
    clear hpl hgo hrow hbd hbs hbr hbel HS
    by_cases hlt : k < cs.length
    rotate_left
    · obtain rfl : k = cs.length := by omega
      have HR2 : Hid (R = .ok pre) := Lib.hid (by
        have := HGO.out
        rw [List.drop_length] at this
        rw [← this]; simp [backGo, Except.map])
      go_wp2_with fail
      have cz : (wo.setCell ⟨w.heap.size + 1, 0, none⟩ (.slice Ao pre.length co)).cell? ⟨w.heap.size + 1, 0, none⟩ = some (.slice Ao pre.length co) := (HBR.out.set_ 0 _).cell 0
      have HBZ : Hid (Below w.heap.size w (wo.setCell ⟨w.heap.size + 1, 0, none⟩ (.slice Ao pre.length co))) := Lib.hid (HBL.out.setCell (by show w.heap.size ≤ w.heap.size + 1; omega) _)
      have HA2 : Hid (RowN 68 2 .i64 epre ET.nums gd (wo.setCell ⟨w.heap.size + 1, 0, none⟩ (.slice Ao pre.length co)) (.slice Ao pre.length co) pre) :=
        Lib.hid (rowN_grown HROW.out (only_setCell (World.grownBy.refl wo _) (.inl rfl) _) (.inr (fun e => by obtain ⟨_, hro, _⟩ := HROW.out; have e' : (Value.slice Ao pre.length co).ownBlock = some (w.heap.size + 1) := e; have := (hro.lt _ e').1; omega)) (fun r hr => by cases hr; exact ⟨_, _, _, HBR.out, by decide⟩))
      rw [← HPL.out]
      generalize wo.setCell ⟨w.heap.size + 1, 0, none⟩ (.slice Ao pre.length co) = WZ at *
      refine bodyPost_ret (v := .tuple #[.agg #[.slice Ao pre.length co], .int .i64 0]) (by simp [results, Tryz.results11, go_sem, cz]; try rfl) rfl ?_
      rw [HCF.out, HR2.out]
      exact ⟨HBZ.out, _, rfl, rowN_from HA2.out (by omega)⟩
    obtain ⟨ad, us, rfl, hba, au, lu, cu⟩ := ED.out k hlt
    replace cu := cu.keep (w' := wo) (fun p hp => HBL.out.cell (by rw [hp, block_of_add]; exact hba))
    have HEO := Lib.hid (HE.out _ (List.getElem_mem hlt))
    have HGN := Lib.hid ((backGo_step (txt := txtO) (l := l) hlt pre).symm.trans HGO.out)
    generalize cs[k] = c at *
    obtain ⟨vc, rfl, gc⟩ := at_ccells au
    obtain ⟨Y0, z0, rfl, hz0, hmz0⟩ := at_slice gc
    have HEC := Lib.hid gc
    obtain ⟨a0, a1, a2⟩ := three cu
    have hab : (ad.add (k * 3)).block < wo.heap.size := by rw [block_of_add]; omega
    have hbs0 : wo.cell? ⟨w.heap.size, 0, none⟩ = some (.slice A l.length cA) := HBS.out.cell 0
    clear au lu gc cu HGO
    go_upto_region 8 with fail
    have BC := Lib.hid (Blk.new wo 57 #[.int .i64 c.field, .string c.text, .slice Y0 c.nums.length z0])
    have HB3 := Lib.hid ((Below.refl _ wo).alloc (Nat.le_refl _) (.cells #[.int .i64 c.field, .string c.text, .slice Y0 c.nums.length z0] 57))
    have hz3 : wo.heap.size + 1 = (wo.alloc (.cells #[.int .i64 c.field, .string c.text, .slice Y0 c.nums.length z0] 57)).heap.size := by simp
    generalize wo.alloc (.cells #[.int .i64 c.field, .string c.text, .slice Y0 c.nums.length z0] 57) = W3 at *
    clear a0 a1 a2 hcd hcr hfr hbs0
    have HBS3 := Lib.hid (HBS.out.below HB3.out (by omega)); have HBR3 := Lib.hid (HBR.out.below HB3.out (by omega)); have HBL3 := Lib.hid (HBL.out.trans (HB3.out.mono hsz))
    have d0 : W3.cell? ⟨wo.heap.size, 0, none⟩ = some (.int .i64 c.field) := BC.out.cell 0
    have d1 : W3.cell? ⟨w.heap.size, 0, none⟩ = some (.slice A l.length cA) := HBS3.out.cell 0
    have d2 : W3.cell? ⟨w.heap.size + 1, 0, none⟩ = some (.slice none 0 0) := HBR3.out.cell 0
    have d3 : W3.frozen? ⟨w.heap.size + 1, 0, none⟩ = false := HBR3.out.frozen 0
    rcases (show c.field < 0 ∨ (¬ c.field < 0 ∧ (l.length : Int) ≤ c.field) ∨ (0 ≤ c.field ∧ c.field < l.length) by omega) with hn | ⟨hn, hn2⟩ | ⟨hn, hn2⟩
    · have HER : Hid (R = .error 81) := Lib.hid (by have := HGN.out; rw [backE_81 (.inl hn)] at this; exact this.symm)
      have e1 : decide (c.field < 0) = true := decide_eq_true hn
      clear HGN hn
      go_wp2_with fail
      have cz : (W3.setCell ⟨w.heap.size + 1, 0, none⟩ (.slice none 0 0)).cell? ⟨w.heap.size + 1, 0, none⟩ = some (.slice none 0 0) := (HBR3.out.set_ 0 _).cell 0
      have HBZ : Hid (Below w.heap.size w (W3.setCell ⟨w.heap.size + 1, 0, none⟩ (.slice none 0 0))) := Lib.hid (HBL3.out.setCell (by show w.heap.size ≤ w.heap.size + 1; omega) _)
      generalize W3.setCell ⟨w.heap.size + 1, 0, none⟩ (.slice none 0 0) = WZ at *
      refine bodyPost_ret (v := .tuple #[.agg #[.slice none 0 0], .int .i64 81]) (by simp [results, Tryz.results11, go_sem, cz]; try rfl) rfl ?_
      rw [HCF.out, HER.out]
      exact ⟨HBZ.out, rfl⟩
    · have HER : Hid (R = .error 81) := Lib.hid (by have := HGN.out; rw [backE_81 (.inr hn2)] at this; exact this.symm)
      have e1 : decide (c.field < 0) = false := decide_eq_false hn
      have e2 : decide ((l.length : Int) ≤ c.field) = true := decide_eq_true hn2
      clear HGN hn hn2
      go_wp2_with fail
      have cz : (W3.setCell ⟨w.heap.size + 1, 0, none⟩ (.slice none 0 0)).cell? ⟨w.heap.size + 1, 0, none⟩ = some (.slice none 0 0) := (HBR3.out.set_ 0 _).cell 0
      have HBZ : Hid (Below w.heap.size w (W3.setCell ⟨w.heap.size + 1, 0, none⟩ (.slice none 0 0))) := Lib.hid (HBL3.out.setCell (by show w.heap.size ≤ w.heap.size + 1; omega) _)
      generalize W3.setCell ⟨w.heap.size + 1, 0, none⟩ (.slice none 0 0) = WZ at *
      refine bodyPost_ret (v := .tuple #[.agg #[.slice none 0 0], .int .i64 81]) (by simp [results, Tryz.results11, go_sem, cz]; try rfl) rfl ?_
      rw [HCF.out, HER.out]
      exact ⟨HBZ.out, rfl⟩
    obtain ⟨i, hi⟩ : ∃ i : Nat, c.field = i := ⟨c.field.toNat, by omega⟩
    have hil : i < l.length := by omega
    have e1 : decide (c.field < 0) = false := decide_eq_false (by omega)
    have e2 : decide ((l.length : Int) ≤ c.field) = false := decide_eq_false (by omega)
    have e3 : decide (l.length ≤ i) = false := decide_eq_false (by omega)
    have hil2 : (i : Int) < (l.length : Int) := by omega
    have HCI := Lib.hid hi
    obtain ⟨c0, ct, cn⟩ := c
    dsimp only at *
    obtain rfl : c0 = i := hi
    clear hn hn2 d2 d3
    obtain ⟨sd, us2, rfl, hbs, asx, ls, fs⟩ := EA.out i hil
    replace fs := fs.keep (w' := W3) (fun p hp => HBL3.out.cell (by rw [hp, block_of_add]; exact hbs))
    have hli : l[i]? = some l[i] := List.getElem?_eq_getElem hil
    have hmay : mayB l[i] = true := may_of hck hli
    have HFO := Lib.hid (HF.out _ (List.getElem_mem hil))
    generalize l[i] = f at *
    obtain ⟨vs, rfl, gs⟩ := at_fcells asx
    obtain ⟨X, z1, rfl, hz1', hmz1⟩ := at_slice gs
    have HFC := Lib.hid gs
    obtain ⟨s0, s1, s2, s3, s4, s5, s6⟩ := seven fs
    have hsb : (sd.add (i * 7)).block < W3.heap.size := by rw [block_of_add]; omega
    have HLI := Lib.hid hli; have HMY := Lib.hid hmay
    clear hli asx ls gs fs hmay
    go_upto_region 11 with fail
    have BF := Lib.hid (Blk.new W3 54 #[.string f.name, .int .i64 f.kind, .slice X f.chain.length z1, .int .i64 f.scale, .int .i64 f.dims, .bool f.many, .bool f.stored])
    have HB4 := Lib.hid ((Below.refl _ W3).alloc (Nat.le_refl _) (.cells #[.string f.name, .int .i64 f.kind, .slice X f.chain.length z1, .int .i64 f.scale, .int .i64 f.dims, .bool f.many, .bool f.stored] 54))
    have hz4 : W3.heap.size + 1 = (W3.alloc (.cells #[.string f.name, .int .i64 f.kind, .slice X f.chain.length z1, .int .i64 f.scale, .int .i64 f.dims, .bool f.many, .bool f.stored] 54)).heap.size := by simp
    generalize W3.alloc (.cells #[.string f.name, .int .i64 f.kind, .slice X f.chain.length z1, .int .i64 f.scale, .int .i64 f.dims, .bool f.many, .bool f.stored] 54) = W4 at *
    have HOB : Hid (Below wo.heap.size wo W4) := Lib.hid (HB3.out.trans (HB4.out.mono (by omega)))
    have HBL4 : Hid (Below w.heap.size w W4) := Lib.hid (HBL.out.trans (HOB.out.mono hsz))
    have BC4 := Lib.hid (BC.out.below HB4.out (by omega))
    have HCL := Lib.hid (fun (V : World) (hV : Below W4.heap.size W4 V) => clone_own (.slice Y0 cn.length z0) cn V (At.keep (fun p hp => (HBL4.out.trans (hV.mono HBL4.out.size)).cell hp) (fun g hg => by have := HBL4.out.size; have := hV.size; omega) HEC.out) HEO.out.nums.1)
    clear s0 s1 s2 s3 s4 s5 s6 d0 d1 e1 e2 e3 hab hsb
    refine wp_mono (Q := fun ex a' V => ex = .normal ∧ ∃ gE Y z2, MadeE W4 f.name ct cn gE Y z2 V ∧ a' = { tmps := #[.agg #[.slice (some sd) l.length cA], .slice (some ad) cs.length cD, .pointer (some ⟨w.heap.size, 0, none⟩), undef, .pointer (some ⟨w.heap.size + 1, 0, none⟩), u5, .int .i64 0, .pointer (some ⟨gd, 0, none⟩), undef, .pointer (some ⟨wo.heap.size, 0, none⟩), .pointer (some ⟨W3.heap.size, 0, none⟩), .pointer (some ⟨gE, 0, none⟩), .agg #[.slice (some sd) l.length cA], .int .i64 0, .int .i64 0, .bool false, undef, undef, .slice (some ad) cs.length cD, .int .i64 cs.length, .int .i64 k, .bool true, .pointer (some (ad.add (k * 3))), .agg #[.int .i64 i, .string ct, .slice Y0 cn.length z0], .pointer (some ⟨wo.heap.size, 0, none⟩), .int .i64 i, .bool false, .bool false, .pointer (some ⟨wo.heap.size, 0, none⟩), .int .i64 i, .pointer (some ⟨w.heap.size, 0, none⟩), .slice (some sd) l.length cA, .int .i64 l.length, .bool false, .bool false, u35, .pointer (some ⟨w.heap.size, 0, none⟩), .slice (some sd) l.length cA, .pointer (some ⟨wo.heap.size, 0, none⟩), .int .i64 i, .pointer (some (sd.add (i * 7))), .agg #[.string f.name, .int .i64 f.kind, .slice X f.chain.length z1, .int .i64 f.scale, .int .i64 f.dims, .bool f.many, .bool f.stored], .pointer (some ⟨W3.heap.size, 0, none⟩), .string f.name, .pointer (some ⟨wo.heap.size, 1, none⟩), .string ct, .pointer (some ⟨wo.heap.size, 2, none⟩), .slice Y0 cn.length z0, .slice Y cn.length z2, .agg #[.string f.name, .string ct, .slice Y cn.length z2], u50, u51, u52, u53, u54, u55, u56, u57, u58, u59, u60, u61, u62, u63, u64, u65, u66, u67, u68, u69, u70, u71, u72, u73, u74, u75, u76, u77, u78, u79, u80, u81, u82, u83, u84, u85, u86, u87, u88, u89, undef], defers := [] }) ?region ?rest
    case region =>
      refine wp_region_held_drew (S := fun V => Below W4.heap.size W4 V) (by kernel_rfl) (Below.refl _ _).drew (fun hS0 => ?_)
      refine' wpAnyH_take (i := 0) (v := _) (by simp only [List.getElem?_toArray, List.getElem?_cons_zero]; rfl) (by kernel_rfl) (by kernel_rfl) (by kernel_rfl) (by rintro _ _ _ ⟨h, _⟩; cases h) (Or.inl ⟨by rfl, ?hmr0⟩) hS0 ?rmr0
      case hmr0 => intro V hSw; clear hSw; go_simp; try with_reducible rfl
      try simp only [Act.put, List.setIfInBounds_toArray, List.set_cons_zero, List.set_cons_succ]
      refine' wpAnyH_take (i := 1) (v := _) (by simp only [List.getElem?_toArray, List.getElem?_cons_succ, List.getElem?_cons_zero]; rfl) (by kernel_rfl) (by kernel_rfl) (by kernel_rfl) (by rintro _ _ _ ⟨h, _⟩; cases h) (Or.inl ⟨by rfl, ?hmr1⟩) hS0 ?rmr1
      case hmr1 => intro V hSw; have fq : V.cell? ⟨W3.heap.size, 0, none⟩ = some (.string f.name) := (BF.out.below hSw BF.out.lt).cell 0; clear hSw; go_simp; try with_reducible rfl
      try simp only [Act.put, List.setIfInBounds_toArray, List.set_cons_zero, List.set_cons_succ]
      refine' wpAnyH_take (i := 2) (v := _) (by simp only [List.getElem?_toArray, List.getElem?_cons_succ, List.getElem?_cons_zero]; rfl) (by kernel_rfl) (by kernel_rfl) (by kernel_rfl) (by rintro _ _ _ ⟨h, _⟩; cases h) (Or.inl ⟨by rfl, ?hmr2⟩) hS0 ?rmr2
      case hmr2 => intro V hSw; clear hSw; go_simp; try with_reducible rfl
      try simp only [Act.put, List.setIfInBounds_toArray, List.set_cons_zero, List.set_cons_succ]
      refine' wpAnyH_take (i := 3) (v := _) (by simp only [List.getElem?_toArray, List.getElem?_cons_succ, List.getElem?_cons_zero]; rfl) (by kernel_rfl) (by kernel_rfl) (by kernel_rfl) (by rintro _ _ _ ⟨h, _⟩; cases h) (Or.inl ⟨by rfl, ?hmr3⟩) hS0 ?rmr3
      case hmr3 => intro V hSw; have fq : V.cell? ⟨wo.heap.size, 1, none⟩ = some (.string ct) := (BC4.out.below hSw BC4.out.lt).cell 1; clear hSw; go_simp; try with_reducible rfl
      try simp only [Act.put, List.setIfInBounds_toArray, List.set_cons_zero, List.set_cons_succ]
      refine' wpAnyH_take (i := 4) (v := _) (by simp only [List.getElem?_toArray, List.getElem?_cons_succ, List.getElem?_cons_zero]; rfl) (by kernel_rfl) (by kernel_rfl) (by kernel_rfl) (by rintro _ _ _ ⟨h, _⟩; cases h) (Or.inl ⟨by rfl, ?hmr4⟩) hS0 ?rmr4
      case hmr4 => intro V hSw; clear hSw; go_simp; try with_reducible rfl
      try simp only [Act.put, List.setIfInBounds_toArray, List.set_cons_zero, List.set_cons_succ]
      refine' wpAnyH_take (i := 5) (v := _) (by simp only [List.getElem?_toArray, List.getElem?_cons_succ, List.getElem?_cons_zero]; rfl) (by kernel_rfl) (by kernel_rfl) (by kernel_rfl) (by rintro _ _ _ ⟨h, _⟩; cases h) (Or.inl ⟨by rfl, ?hmr5⟩) hS0 ?rmr5
      case hmr5 => intro V hSw; have fq : V.cell? ⟨wo.heap.size, 2, none⟩ = some (.slice Y0 cn.length z0) := (BC4.out.below hSw BC4.out.lt).cell 2; clear hSw; go_simp; try with_reducible rfl
      try simp only [Act.put, List.setIfInBounds_toArray, List.set_cons_zero, List.set_cons_succ]
      refine wpAnyH_ready (rs := [6, 8]) (by kernel_rfl) (by simp) ?_
      refine' AllReadyH.cons (by simp only [List.getElem?_toArray, List.getElem?_cons_succ, List.getElem?_cons_zero]; rfl) (fun K hK => ?_) ?_
      · go_simp
        refine (HCL.out _ hS0).mono ?_
        rintro e' V1 ⟨vy, rfl, hay, hb1⟩
        obtain ⟨Y, z2, rfl, _, _⟩ := at_slice hay.at_
        have hT1 : Below W4.heap.size W4 V1 := hS0.trans hb1
        go_simp
        refine hK.out _ _ hT1 (fun hS1 => ?_)
        try simp only [Act.put, List.setIfInBounds_toArray, List.set_cons_zero, List.set_cons_succ]
        refine' wpAnyH_take (i := 7) (v := _) (by simp only [List.getElem?_toArray, List.getElem?_cons_succ, List.getElem?_cons_zero]; rfl) (by kernel_rfl) (by kernel_rfl) (by kernel_rfl) (by rintro _ _ _ ⟨h, _⟩; cases h) (Or.inl ⟨by rfl, ?hmra7⟩) hS1 ?rmra7
        case hmra7 => intro V hSw; clear hSw; go_simp; try with_reducible rfl
        try simp only [Act.put, List.setIfInBounds_toArray, List.set_cons_zero, List.set_cons_succ]
        refine wpAnyH_ready (rs := [8]) (by kernel_rfl) (by simp) ?_
        refine' AllReadyH.cons (by simp only [List.getElem?_toArray, List.getElem?_cons_succ, List.getElem?_cons_zero]; rfl) (fun K hK => ?_) AllReadyH.nil
        go_simp
        refine hK.out _ _ (hT1.alloc hT1.size _) (fun hS2 => ?_)
        try simp only [Act.put, List.setIfInBounds_toArray, List.set_cons_zero, List.set_cons_succ]
        refine wpAnyH_ready (rs := [9]) (by kernel_rfl) (by simp) ?_
        refine' AllReadyH.cons (by simp only [List.getElem?_toArray, List.getElem?_cons_succ, List.getElem?_cons_zero]; rfl) (fun K hK => ?_) AllReadyH.nil
        go_simp
        refine hK.out _ _ (hT1.alloc hT1.size _) (fun hS3 => ?_)
        try simp only [Act.put, List.setIfInBounds_toArray, List.set_cons_zero, List.set_cons_succ]
        refine wpAnyH_done (by kernel_rfl) ?_ _
        refine ⟨rfl, V1.heap.size, Y, z2, ⟨hT1.alloc hT1.size _, hT1.size, Blk.new _ _ _, ?_⟩, rfl⟩
        exact (hay.below ((Below.refl _ V1).alloc (Nat.le_refl _) _) (Nat.le_refl _)).more (by simp)
      refine' AllReadyH.cons (by simp only [List.getElem?_toArray, List.getElem?_cons_succ, List.getElem?_cons_zero]; rfl) (fun K hK => ?_) AllReadyH.nil
      go_simp
      have hT0 : Below W4.heap.size W4 (W4.drew.alloc (.cells #[.string ⟨#[]⟩, .string ⟨#[]⟩, .slice none 0 0] 68)) := hS0.alloc hS0.size _
      refine hK.out _ _ hT0 (fun hS1 => ?_)
      try simp only [Act.put, List.setIfInBounds_toArray, List.set_cons_zero, List.set_cons_succ]
      refine wpAnyH_ready (rs := [6]) (by kernel_rfl) (by simp) ?_
      refine' AllReadyH.cons (by simp only [List.getElem?_toArray, List.getElem?_cons_succ, List.getElem?_cons_zero]; rfl) (fun K hK => ?_) AllReadyH.nil
      go_simp
      refine (HCL.out _ hS1).mono ?_
      rintro e' V1 ⟨vy, rfl, hay, hb1⟩
      obtain ⟨Y, z2, rfl, _, _⟩ := at_slice hay.at_
      have hT1 : Below W4.heap.size W4 V1 := hS1.trans (hb1.mono hS1.size)
      have BZ : Blk V1 W4.heap.size 68 #[.string ⟨#[]⟩, .string ⟨#[]⟩, .slice none 0 0] := (Blk.new W4.drew _ _).below hb1 (by simp)
      have k0 : V1.cell? ⟨W4.heap.size, 0, none⟩ = some (.string ⟨#[]⟩) := BZ.cell 0
      have k1 : V1.cell? ⟨W4.heap.size, 1, none⟩ = some (.string ⟨#[]⟩) := BZ.cell 1
      have k2 : V1.cell? ⟨W4.heap.size, 2, none⟩ = some (.slice none 0 0) := BZ.cell 2
      have j0 : V1.frozen? ⟨W4.heap.size, 0, none⟩ = false := BZ.frozen 0
      have j1 : V1.frozen? ⟨W4.heap.size, 1, none⟩ = false := BZ.frozen 1
      have j2 : V1.frozen? ⟨W4.heap.size, 2, none⟩ = false := BZ.frozen 2
      have hlz : W4.heap.size < V1.heap.size := BZ.lt
      go_simp
      refine hK.out _ _ hT1 (fun hS2 => ?_)
      try simp only [Act.put, List.setIfInBounds_toArray, List.set_cons_zero, List.set_cons_succ]
      refine' wpAnyH_take (i := 7) (v := _) (by simp only [List.getElem?_toArray, List.getElem?_cons_succ, List.getElem?_cons_zero]; rfl) (by kernel_rfl) (by kernel_rfl) (by kernel_rfl) (by rintro _ _ _ ⟨h, _⟩; cases h) (Or.inl ⟨by rfl, ?hmrb7⟩) hS2 ?rmrb7
      case hmrb7 => intro V hSw; clear hSw; go_simp; try with_reducible rfl
      try simp only [Act.put, List.setIfInBounds_toArray, List.set_cons_zero, List.set_cons_succ]
      refine wpAnyH_ready (rs := [9]) (by kernel_rfl) (by simp) ?_
      refine' AllReadyH.cons (by simp only [List.getElem?_toArray, List.getElem?_cons_succ, List.getElem?_cons_zero]; rfl) (fun K hK => ?_) AllReadyH.nil
      go_simp
      refine hK.out _ _ (((hT1.setCell (Nat.le_refl W4.heap.size) _).setCell (Nat.le_refl W4.heap.size) _).setCell (Nat.le_refl W4.heap.size) _) (fun hS3 => ?_)
      try simp only [Act.put, List.setIfInBounds_toArray, List.set_cons_zero, List.set_cons_succ]
      refine wpAnyH_done (by kernel_rfl) ?_ _
      have hay' : NumsIn 2 .i64 (W4.heap.size + 1) V1.heap.size V1 cn (.slice Y cn.length z2) := hay.from_ (by simp)
      have hq := nums_far (nums_far (nums_far hay' (p := ⟨W4.heap.size, 0, none⟩) (Nat.lt_succ_self _) (.string f.name)) (p := ⟨W4.heap.size, 1, none⟩) (Nat.lt_succ_self _) (.string ct)) (p := ⟨W4.heap.size, 2, none⟩) (Nat.lt_succ_self _) (.slice Y cn.length z2)
      exact ⟨rfl, W4.heap.size, Y, z2, ⟨((hT1.setCell (Nat.le_refl W4.heap.size) _).setCell (Nat.le_refl W4.heap.size) _).setCell (Nat.le_refl W4.heap.size) _, Nat.le_refl _, ((BZ.set_ 0 _).set_ 1 _).set_ 2 _, (hq.from_ (Nat.le_succ _)).more (by simp [World.setCell])⟩, rfl⟩
    rintro ex a' W5 ⟨rfl, gE, Y, z2, hM, rfl⟩
    have HB5 := Lib.hid hM.below; have BE5 := Lib.hid hM.blk; have HN5 := Lib.hid hM.nums
    have hge := hM.ge
    have hgl : gE < W5.heap.size := hM.blk.lt
    have BF5 := Lib.hid (BF.out.below hM.below BF.out.lt); have BC5 := Lib.hid (BC4.out.below hM.below BC4.out.lt)
    have HOB5 : Hid (Below wo.heap.size wo W5) := Lib.hid (HOB.out.trans (hM.below.mono (by omega)))
    have HBR5 := Lib.hid (HBR.out.below HOB5.out (by omega))
    have HBL5 : Hid (Below w.heap.size w W5) := Lib.hid (HBL.out.trans (HOB5.out.mono hsz))
    have hz5 := hM.below.size
    clear hM
    obtain ⟨f0, f1, f2, f3, f4, f5, f6⟩ := f
    dsimp only at *
    have q1 : W5.cell? ⟨W3.heap.size, 1, none⟩ = some (.int .i64 f1) := BF5.out.cell 1
    rcases eqk f1 4 with ⟨h4, k4⟩ | ⟨h4, k4⟩
    · subst h4
      have HB4' : Hid (backE txtO l ⟨i, ct, cn⟩ = if cn.length = 1 ∧ ct.size = 0 then .ok ⟨f0, txtO ⟨f0, 4, f2, f3, f4, f5, f6⟩ (cn.getD 0 0), []⟩ else .error 82) := Lib.hid (backE_4 rfl HLI.out rfl)
      have q2 : W5.cell? ⟨wo.heap.size, 2, none⟩ = some (.slice Y0 cn.length z0) := BC5.out.cell 2
      have q3 : W5.cell? ⟨wo.heap.size, 1, none⟩ = some (.string ct) := BC5.out.cell 1
      have r2 : W5.cell? ⟨w.heap.size + 1, 0, none⟩ = some (.slice none 0 0) := HBR5.out.cell 0
      have r3 : W5.frozen? ⟨w.heap.size + 1, 0, none⟩ = false := HBR5.out.frozen 0
      rcases neqn cn.length 1 with ⟨hl1, hl2⟩ | ⟨hl1, hl2⟩
      rotate_left
      · have HER : Hid (R = .error 82) := Lib.hid (by have := HGN.out; rw [HB4'.out, if_neg (fun h => hl1 (by exact_mod_cast h.1))] at this; exact this.symm)
        clear HGN HB4' hl1
        go_wp2_with fail
        have cz : (W5.setCell ⟨w.heap.size + 1, 0, none⟩ (.slice none 0 0)).cell? ⟨w.heap.size + 1, 0, none⟩ = some (.slice none 0 0) := (HBR5.out.set_ 0 _).cell 0
        have HBZ : Hid (Below w.heap.size w (W5.setCell ⟨w.heap.size + 1, 0, none⟩ (.slice none 0 0))) := Lib.hid (HBL5.out.setCell (by show w.heap.size ≤ w.heap.size + 1; omega) _)
        generalize W5.setCell ⟨w.heap.size + 1, 0, none⟩ (.slice none 0 0) = WZ at *
        refine bodyPost_ret (v := .tuple #[.agg #[.slice none 0 0], .int .i64 82]) (by simp [results, Tryz.results11, go_sem, cz]; try rfl) rfl ?_
        rw [HCF.out, HER.out]
        exact ⟨HBZ.out, rfl⟩
      rcases empty_ways ct with ⟨t0, t1⟩ | ⟨t0, t1⟩
      rotate_left
      · have HER : Hid (R = .error 82) := Lib.hid (by have := HGN.out; rw [HB4'.out, if_neg (fun h => t0 h.2)] at this; exact this.symm)
        clear HGN HB4' hl1 t0
        go_wp2_with fail
        have cz : (W5.setCell ⟨w.heap.size + 1, 0, none⟩ (.slice none 0 0)).cell? ⟨w.heap.size + 1, 0, none⟩ = some (.slice none 0 0) := (HBR5.out.set_ 0 _).cell 0
        have HBZ : Hid (Below w.heap.size w (W5.setCell ⟨w.heap.size + 1, 0, none⟩ (.slice none 0 0))) := Lib.hid (HBL5.out.setCell (by show w.heap.size ≤ w.heap.size + 1; omega) _)
        generalize W5.setCell ⟨w.heap.size + 1, 0, none⟩ (.slice none 0 0) = WZ at *
        refine bodyPost_ret (v := .tuple #[.agg #[.slice none 0 0], .int .i64 82]) (by simp [results, Tryz.results11, go_sem, cz]; try rfl) rfl ?_
        rw [HCF.out, HER.out]
        exact ⟨HBZ.out, rfl⟩
      have hl3 : cn.length = 1 := by exact_mod_cast hl1
      obtain ⟨n, rfl⟩ : ∃ n, cn = [n] := List.length_eq_one_iff.1 hl3
      have HBE : Hid (backE txtO l ⟨i, ct, [n]⟩ = .ok ⟨f0, txtO ⟨f0, 4, f2, f3, f4, f5, f6⟩ n, []⟩) := Lib.hid (by rw [HB4'.out, if_pos ⟨hl3, t0⟩]; rfl)
      clear HB4' hl1 hl3 r2 r3
      go_upto_region 15 with fail
      obtain ⟨_, _, he0, _, _, hrd0⟩ := at_nums HEC.out
      injection he0 with ee1 _ ee3
      subst ee1 ee3
      obtain ⟨ad0, u0, rfl, hb0, hu0, hc0⟩ := hrd0.at_ (k := 0) (by simp)
      obtain rfl : u0 = .int .i64 n := by simpa using hu0.symm
      have HC0 : Hid (w.cell? ad0 = some (.int .i64 n)) := Lib.hid (by
        have : ad0.add 0 = ad0 := by unfold Addr.add; cases ad0; split <;> simp_all
        rwa [this] at hc0)
      have hni : I64 n := HEO.out.nums.2 n (by simp)
      have HTX := Lib.hid (fun (V : World) (hV : Below W4.heap.size W4 V) => OrdLib.text_anyP n f3 V hni.1 hni.2 (OrdLib.pow_next HOT.out (HBL4.out.trans (hV.mono HBL4.out.size))))
      have hnl : ([n] : List Int).length = 1 := rfl
      clear q1 q2 q3 hrd0 hc0 hu0 hni
      refine wp_region_held_drew (S := fun V => Below W4.heap.size W4 V) (by kernel_rfl) HB5.out.drew (fun hS0 => ?_)
      refine' wpAnyH_take (i := 0) (v := _) (by simp only [List.getElem?_toArray, List.getElem?_cons_zero]; rfl) (by kernel_rfl) (by kernel_rfl) (by kernel_rfl) (by exact fun _ _ _ h => h) (Or.inl ⟨by rfl, ?hmt0⟩) hS0 ?rmt0
      case hmt0 => intro V hSw; clear hSw; go_simp; try with_reducible rfl
      try simp only [Act.put, List.setIfInBounds_toArray, List.set_cons_zero, List.set_cons_succ]
      refine' wpAnyH_take (i := 1) (v := _) (by simp only [List.getElem?_toArray, List.getElem?_cons_succ, List.getElem?_cons_zero]; rfl) (by kernel_rfl) (by kernel_rfl) (by kernel_rfl) (by exact fun _ _ _ h => h) (Or.inl ⟨by rfl, ?hmt1⟩) hS0 ?rmt1
      case hmt1 => intro V hSw; have fq : V.cell? ⟨wo.heap.size, 2, none⟩ = some (.slice (some ad0) [n].length z0) := (BC4.out.below hSw BC4.out.lt).cell 2; clear hSw; go_simp; try with_reducible rfl
      try simp only [Act.put, List.setIfInBounds_toArray, List.set_cons_zero, List.set_cons_succ]
      refine' wpAnyH_take (i := 2) (v := _) (by simp only [List.getElem?_toArray, List.getElem?_cons_succ, List.getElem?_cons_zero]; rfl) (by kernel_rfl) (by kernel_rfl) (by kernel_rfl) (by exact fun _ _ _ h => h) (Or.inl ⟨by rfl, ?hmt2⟩) hS0 ?rmt2
      case hmt2 => intro V hSw; clear hSw; go_simp; try with_reducible rfl
      try simp only [Act.put, List.setIfInBounds_toArray, List.set_cons_zero, List.set_cons_succ]
      refine' wpAnyH_take (i := 3) (v := _) (by simp only [List.getElem?_toArray, List.getElem?_cons_succ, List.getElem?_cons_zero]; rfl) (by kernel_rfl) (by kernel_rfl) (by kernel_rfl) (by exact fun _ _ _ h => h) (Or.inl ⟨by rfl, ?hmt3⟩) hS0 ?rmt3
      case hmt3 => intro V hSw; have fq : V.cell? ad0 = some (.int .i64 n) := (hSw.cell (by have := HBL4.out.size; omega)).trans ((HBL4.out.cell hb0).trans HC0.out); clear hSw; go_simp; try with_reducible rfl
      try simp only [Act.put, List.setIfInBounds_toArray, List.set_cons_zero, List.set_cons_succ]
      refine' wpAnyH_take (i := 4) (v := _) (by simp only [List.getElem?_toArray, List.getElem?_cons_succ, List.getElem?_cons_zero]; rfl) (by kernel_rfl) (by kernel_rfl) (by kernel_rfl) (by exact fun _ _ _ h => h) (Or.inl ⟨by rfl, ?hmt4⟩) hS0 ?rmt4
      case hmt4 => intro V hSw; clear hSw; go_simp; try with_reducible rfl
      try simp only [Act.put, List.setIfInBounds_toArray, List.set_cons_zero, List.set_cons_succ]
      refine' wpAnyH_take (i := 5) (v := _) (by simp only [List.getElem?_toArray, List.getElem?_cons_succ, List.getElem?_cons_zero]; rfl) (by kernel_rfl) (by kernel_rfl) (by kernel_rfl) (by exact fun _ _ _ h => h) (Or.inl ⟨by rfl, ?hmt5⟩) hS0 ?rmt5
      case hmt5 => intro V hSw; have fq : V.cell? ⟨W3.heap.size, 3, none⟩ = some (.int .i64 f3) := (BF.out.below hSw BF.out.lt).cell 3; clear hSw; go_simp; try with_reducible rfl
      try simp only [Act.put, List.setIfInBounds_toArray, List.set_cons_zero, List.set_cons_succ]
      refine wpAnyH_ready (rs := [6]) (by kernel_rfl) (by simp) ?_
      refine' AllReadyH.cons (by simp only [List.getElem?_toArray, List.getElem?_cons_succ, List.getElem?_cons_zero]; rfl) (fun K hK => ?_) AllReadyH.nil
      go_simp
      refine (HTX.out _ hS0).mono ?_
      rintro e' W6 ⟨rfl, hb6⟩
      have HB6 : Hid (Below W5.heap.size W5 W6) := Lib.hid (((Below.refl _ W5).drew).trans hb6)
      have hS1 : Below W4.heap.size W4 W6 := hS0.trans (hb6.mono hS0.size)
      have BE6 := Lib.hid (BE5.out.below HB6.out hgl)
      have g1 : W6.cell? ⟨gE, 1, none⟩ = some (.string ct) := BE6.out.cell 1
      have j1 : W6.frozen? ⟨gE, 1, none⟩ = false := BE6.out.frozen 1
      have hz6 : gE < W6.heap.size := BE6.out.lt
      clear hb6
      go_simp
      refine hK.out _ _ hS1 (fun hS2 => ?_)
      try simp only [Act.put, List.setIfInBounds_toArray, List.set_cons_zero, List.set_cons_succ]
      refine' wpAnyH_take (i := 7) (v := _) (by simp only [List.getElem?_toArray, List.getElem?_cons_succ, List.getElem?_cons_zero]; rfl) (by kernel_rfl) (by kernel_rfl) (by kernel_rfl) (by exact fun _ _ _ h => h) (Or.inl ⟨by rfl, ?hmt7⟩) hS2 ?rmt7
      case hmt7 => intro V hSw; clear hSw; go_simp; try with_reducible rfl
      try simp only [Act.put, List.setIfInBounds_toArray, List.set_cons_zero, List.set_cons_succ]
      refine' wpAnyH_take (i := 8) (v := _) (by simp only [List.getElem?_toArray, List.getElem?_cons_succ, List.getElem?_cons_zero]; rfl) (by kernel_rfl) (by kernel_rfl) (by kernel_rfl) (by exact fun _ _ _ h => h) (Or.inl ⟨by rfl, ?hmt8⟩) hS2 ?rmt8
      case hmt8 => intro V hSw; clear hSw; go_simp; try with_reducible rfl
      try simp only [Act.put, List.setIfInBounds_toArray, List.set_cons_zero, List.set_cons_succ]
      refine' wpAnyH_take (i := 9) (v := _) (by simp only [List.getElem?_toArray, List.getElem?_cons_succ, List.getElem?_cons_zero]; rfl) (by kernel_rfl) (by kernel_rfl) (by kernel_rfl) (by exact fun _ _ _ h => h) (Or.inl ⟨by rfl, ?hmt9⟩) hS2 ?rmt9
      case hmt9 => intro V hSw; clear hSw; go_simp; try with_reducible rfl
      try simp only [Act.put, List.setIfInBounds_toArray, List.set_cons_zero, List.set_cons_succ]
      refine' wpAnyH_take (i := 10) (v := _) (by simp only [List.getElem?_toArray, List.getElem?_cons_succ, List.getElem?_cons_zero]; rfl) (by kernel_rfl) (by kernel_rfl) (by kernel_rfl) (by exact fun _ _ _ h => h) (Or.inl ⟨by rfl, ?hmt10⟩) hS2 ?rmt10
      case hmt10 => intro V hSw; clear hSw; go_simp; try with_reducible rfl
      try simp only [Act.put, List.setIfInBounds_toArray, List.set_cons_zero, List.set_cons_succ]
      refine wpAnyH_ready (rs := [11]) (by kernel_rfl) (by simp) ?_
      refine' AllReadyH.cons (by simp only [List.getElem?_toArray, List.getElem?_cons_succ, List.getElem?_cons_zero]; rfl) (fun K hK => ?_) AllReadyH.nil
      go_simp
      have HB7 : Hid (Below W4.heap.size W4 (W6.setCell ⟨gE, 1, none⟩ (.string (str (OrdLib.txtS n f3))))) := Lib.hid (((HB5.out.trans (HB6.out.mono hz5))).setCell hge _)
      have BE7 : Hid (Blk (W6.setCell ⟨gE, 1, none⟩ (.string (str (OrdLib.txtS n f3)))) gE 68 #[.string f0, .string (str (OrdLib.txtS n f3)), .slice Y [n].length z2]) := Lib.hid (BE6.out.set_ 1 _)
      refine hK.out _ _ (hS1.setCell hge _) (fun hS3 => ?_)
      try simp only [Act.put, List.setIfInBounds_toArray, List.set_cons_zero, List.set_cons_succ]
      refine wpAnyH_done (by kernel_rfl) ?_ _
      clear hS3 hK K hS2 hS1 hS0 g1 j1 HTX HC0 HCL
      generalize W6.setCell ⟨gE, 1, none⟩ (.string (str (OrdLib.txtS n f3))) = W7 at *
      have g1 : W7.cell? ⟨gE, 2, none⟩ = some (.slice Y [n].length z2) := BE7.out.cell 2
      have j1 : W7.frozen? ⟨gE, 2, none⟩ = false := BE7.out.frozen 2
      have hz7 : gE < W7.heap.size := BE7.out.lt
      go_upto_region 17 with fail
      have HB8 : Hid (Below W4.heap.size W4 (W7.setCell ⟨gE, 2, none⟩ (.slice none 0 0))) := Lib.hid (HB7.out.setCell hge _)
      have BE8 : Hid (Blk (W7.setCell ⟨gE, 2, none⟩ (.slice none 0 0)) gE 68 #[.string f0, .string (str (OrdLib.txtS n f3)), .slice none 0 0]) := Lib.hid (BE7.out.set_ 2 _)
      clear HB7 BE7 g1 j1
      generalize W7.setCell ⟨gE, 2, none⟩ (.slice none 0 0) = W8 at *
      have HN8 : Hid (NumsIn 2 .i64 wo.heap.size W8.heap.size W8 [] (.slice none 0 0)) := Lib.hid NumsIn.none_
      have HKP : Hid (kindP ⟨f0, 4, f2, f3, f4, f5, f6⟩ (str (OrdLib.txtS n f3)) 0 = true) := Lib.hid rfl
      have HOB8 : Hid (Below wo.heap.size wo W8) := Lib.hid (HOB.out.trans (HB8.out.mono (by omega)))
      have BF8 := Lib.hid (BF.out.below HB8.out BF.out.lt)
      obtain ⟨p0, p1, p2, p3, p4, p5, p6⟩ := blk7 BF8.out
      have e0 : W8.cell? ⟨gE, 0, none⟩ = some (.string f0) := BE8.out.cell 0
      have e1 : W8.cell? ⟨gE, 1, none⟩ = some (.string (str (OrdLib.txtS n f3))) := BE8.out.cell 1
      have e2 : W8.cell? ⟨gE, 2, none⟩ = some (.slice none 0 0) := BE8.out.cell 2
      have hz8 : gE < W8.heap.size := BE8.out.lt
      have HKI := Lib.hid (kind_any ⟨f0, 4, f2, f3, f4, f5, f6⟩ (.slice X f2.length z1) (str (OrdLib.txtS n f3)) none 0 0 W8)
      dsimp only at HKI
      rw [HKP.out] at HKI
      go_wp2_with fail
      refine HKI.out.mono ?_
      rintro e' W9 ⟨rfl, hb9⟩
      have HB9 := Lib.hid hb9
      have HOB9 : Hid (Below wo.heap.size wo W9) := Lib.hid (HOB8.out.trans (hb9.mono HOB8.out.size))
      have BE9 := Lib.hid (BE8.out.below hb9 hz8)
      have HN9 : Hid (NumsIn 2 .i64 wo.heap.size W9.heap.size W9 [] (.slice none 0 0)) := Lib.hid ((HN8.out.below hb9 (Nat.le_refl _)).more hb9.size)
      clear p0 p1 p2 p3 p4 p5 p6 e0 e1 e2 hb9 HKI
      have BD9 := Lib.hid (HBD.out.below HOB9.out hfar2)
      have e0 : W9.cell? ⟨gE, 0, none⟩ = some (.string f0) := BE9.out.cell 0
      have e1 : W9.cell? ⟨gE, 1, none⟩ = some (.string (str (OrdLib.txtS n f3))) := BE9.out.cell 1
      have e2 : W9.cell? ⟨gE, 2, none⟩ = some (.slice none 0 0) := BE9.out.cell 2
      have e3 : W9.cell? ⟨gd, 0, none⟩ = some (.slice Ao pre.length co) := BD9.out.cell 0
      have hz9 : wo.heap.size ≤ W9.heap.size := HOB9.out.size
      obtain ⟨j0, hj1, hj2, hj3, hj4⟩ := info_parts infoE
      obtain ⟨nvs, hxo, hxa⟩ := HROW.out
      obtain ⟨xs, hxs⟩ : ∃ xs, vals3 epre pre nvs = xs := ⟨_, rfl⟩
      have HXS := Lib.hid hxs
      rw [hxs] at hxo
      have HXA := Lib.hid hxa; have HXO := Lib.hid hxo
      clear hxs
      have hown := own_below hxo HOB9.out
      have hpk : pre.length ≤ k := Nat.le_of_eq HPL.out
      clear hxa hxo
      go_wp2_with (at_builtin; refine wpList_append_any _ rfl (.tmp 84) (.tmp 86) 28 rfl gd 68 j0 _ 3 56 Tryz.underlying28 hj1 hj2 hj3 hj4 rfl (by decide) _ _ xs rfl (hown.alloc _) (W9.heap.size + 1) (some ⟨W9.heap.size, 0, none⟩) 1 1 [.string f0, .string (str (OrdLib.txtS n f3)), .slice none 0 0] rfl ?da1 ?da2 ?da3 ?da4 ?da5 ?_)
      case da1 => exact ⟨rfl, fun _ => ⟨_, rfl, by simp, fun j u hu => cells_new W9 [.string f0, .string (str (OrdLib.txtS n f3)), .slice none 0 0] _ j u hu⟩⟩
      case da2 => intro u hu; simp only [List.mem_cons, List.not_mem_nil, or_false] at hu; rcases hu with rfl | rfl | rfl <;> rfl
      case da3 => unfold maxLen; omega
      case da4 => omega
      case da5 => simp; omega
      intro v' wA ho hg hv
      obtain ⟨g', cap', rfl⟩ := ownsRow_succ ho
      have HRG : Hid (RowN 68 2 .i64 epre ET.nums gd wA (.slice (some ⟨g', 0, none⟩) (pre.length + 1) cap') (pre ++ [(⟨f0, (str (OrdLib.txtS n f3)), []⟩ : ET)])) := Lib.hid (by
        have hal : Below W9.heap.size W9 (W9.alloc (.cells #[.string f0, .string (str (OrdLib.txtS n f3)), .slice none 0 0] 68)) := (Below.refl _ _).alloc (Nat.le_refl _) _
        exact rowN_step (wr := wo) (w3 := W9.alloc (.cells #[.string f0, .string (str (OrdLib.txtS n f3)), .slice none 0 0] 68)) (by decide) (by rw [HXS.out]; exact HXO.out) HXA.out ((HN9.out.below hal (Nat.le_refl _)).more hal.size) (HOB9.out.alloc hz9 _) (by rw [HXS.out]; exact ho) hg)
      have hkb : ∀ {g : Nat} {cs : Array Value} {t : TypeId}, Blk W9 g t cs → 68 ≠ t → Blk wA g t cs := fun h hne => (h.alloc _).grown hg (fun e => own_blk_ne hown h hne e.symm)
      have hbs9 := hkb (HBS.out.below HOB9.out (by omega)) (by decide)
      have hbr9 := hkb (HBR.out.below HOB9.out (by omega)) (by decide)
      have hbd9 := hkb BD9.out (by decide)
      have hnr : (Value.slice (some ⟨g', 0, none⟩) (pre.length + 1) cap').ownBlock ≠ some gd := own_blk_ne ho hbd9 (by decide)
      have HBLA : Hid (Below w.heap.size w wA) := Lib.hid (((HBL.out.trans (HOB9.out.mono hsz)).alloc (by omega) _).grown hg (by simp; omega) (fun r h => by have := (hown.lt r h).1; omega))
      have hza : gd < wA.heap.size := hbd9.lt
      have f0' : wA.cell? ⟨gd, 0, none⟩ = some (.slice Ao pre.length co) := hbd9.cell 0
      have f1' : wA.frozen? ⟨gd, 0, none⟩ = false := hbd9.frozen 0
      have HST : Hid (BackStN w (.slice (some sd) l.length cA) l cs R gd (k + 1) (wA.setCell ⟨gd, 0, none⟩ (.slice (some ⟨g', 0, none⟩) (pre.length + 1) cap'))) := Lib.hid (by
        refine ⟨⟨pre ++ [(⟨f0, (str (OrdLib.txtS n f3)), []⟩ : ET)], .slice (some ⟨g', 0, none⟩) (pre.length + 1) cap', ?_, by simp [HPL.out], rowN_grown HRG.out (only_setCell (World.grownBy.refl wA _) (.inl rfl) _) (.inr hnr) (fun r hr => by cases hr; exact ⟨_, _, _, hbd9, by decide⟩), hbd9.set_ 0 _⟩, hbs9.far (p := ⟨gd, 0, none⟩) (by show w.heap.size ≠ gd; omega) _, hbr9.far (p := ⟨gd, 0, none⟩) (by show w.heap.size + 1 ≠ gd; omega) _, HBLA.out.setCell (by show w.heap.size ≤ gd; omega) _, hfar1, by simpa [World.setCell] using hza⟩
        have := HGN.out
        rw [HBE.out] at this
        exact this)
      clear ho hg hv hkb hbs9 hbr9 hbd9 hnr hown e0 e1 e2 e3 HRG HXA HXO
      go_wp2_with fail
      go_roundw
      case rel => exact ⟨k + 1, by omega, by go_num, HST⟩
      case measure => simp [intOf]; omega
    · have HB8 := HB5; have BE8 := BE5
      have HOB8' : Hid (Below wo.heap.size wo W5) := HOB5
      have HN8 : Hid (NumsIn 2 .i64 wo.heap.size W5.heap.size W5 cn (.slice Y cn.length z2)) := Lib.hid (HN5.out.from_ (by omega))
      have HBK : Hid (backE txtO l ⟨i, ct, cn⟩ = if kindP ⟨f0, f1, f2, f3, f4, f5, f6⟩ ct cn.length = true then .ok ⟨f0, ct, cn⟩ else .error 82) := Lib.hid (backE_kind rfl HLI.out HMY.out h4)
      clear h4
      generalize W5 = W8 at *
      have HKI := Lib.hid (kind_any ⟨f0, f1, f2, f3, f4, f5, f6⟩ (.slice X f2.length z1) ct Y cn.length z2 W8)
      dsimp only at HKI
      cases hkp : kindP ⟨f0, f1, f2, f3, f4, f5, f6⟩ ct cn.length with
      | false =>
        have HER : Hid (R = .error 82) := Lib.hid (by have := HGN.out; rw [HBK.out, if_neg (by rw [hkp]; decide)] at this; exact this.symm)
        rw [hkp] at HKI
        obtain ⟨p0, p1', p2, p3, p4, p5, p6⟩ := blk7 BF5.out
        have e0 : W8.cell? ⟨gE, 0, none⟩ = some (.string f0) := BE8.out.cell 0
        have e1 : W8.cell? ⟨gE, 1, none⟩ = some (.string ct) := BE8.out.cell 1
        have e2 : W8.cell? ⟨gE, 2, none⟩ = some (.slice Y cn.length z2) := BE8.out.cell 2
        clear hkp HGN HBK
        go_wp2_with fail
        refine HKI.out.mono ?_
        rintro e' W9 ⟨rfl, hb9⟩
        have HBR9 := Lib.hid (HBR5.out.below hb9 (by have := HBR5.out.lt; omega))
        have HBL9 : Hid (Below w.heap.size w W9) := Lib.hid (HBL5.out.trans (hb9.mono HBL5.out.size))
        have r2 : W9.cell? ⟨w.heap.size + 1, 0, none⟩ = some (.slice none 0 0) := HBR9.out.cell 0
        have r3 : W9.frozen? ⟨w.heap.size + 1, 0, none⟩ = false := HBR9.out.frozen 0
        clear hb9 p0 p1' p2 p3 p4 p5 p6 e0 e1 e2
        go_wp2_with fail
        have cz : (W9.setCell ⟨w.heap.size + 1, 0, none⟩ (.slice none 0 0)).cell? ⟨w.heap.size + 1, 0, none⟩ = some (.slice none 0 0) := (HBR9.out.set_ 0 _).cell 0
        have HBZ : Hid (Below w.heap.size w (W9.setCell ⟨w.heap.size + 1, 0, none⟩ (.slice none 0 0))) := Lib.hid (HBL9.out.setCell (by show w.heap.size ≤ w.heap.size + 1; omega) _)
        generalize W9.setCell ⟨w.heap.size + 1, 0, none⟩ (.slice none 0 0) = WZ at *
        refine bodyPost_ret (v := .tuple #[.agg #[.slice none 0 0], .int .i64 82]) (by simp [results, Tryz.results11, go_sem, cz]; try rfl) rfl ?_
        rw [HCF.out, HER.out]
        exact ⟨HBZ.out, rfl⟩
      | true =>
        have HKP := Lib.hid hkp
        have HBE : Hid (backE txtO l ⟨i, ct, cn⟩ = .ok ⟨f0, ct, cn⟩) := Lib.hid (by rw [HBK.out, if_pos hkp])
        clear hkp HBK HKI
        have HOB8 : Hid (Below wo.heap.size wo W8) := Lib.hid (HOB.out.trans (HB8.out.mono (by omega)))
        have BF8 := Lib.hid (BF.out.below HB8.out BF.out.lt)
        obtain ⟨p0, p1, p2, p3, p4, p5, p6⟩ := blk7 BF8.out
        have e0 : W8.cell? ⟨gE, 0, none⟩ = some (.string f0) := BE8.out.cell 0
        have e1 : W8.cell? ⟨gE, 1, none⟩ = some (.string ct) := BE8.out.cell 1
        have e2 : W8.cell? ⟨gE, 2, none⟩ = some (.slice Y cn.length z2) := BE8.out.cell 2
        have hz8 : gE < W8.heap.size := BE8.out.lt
        have HKI := Lib.hid (kind_any ⟨f0, f1, f2, f3, f4, f5, f6⟩ (.slice X f2.length z1) ct Y cn.length z2 W8)
        dsimp only at HKI
        rw [HKP.out] at HKI
        go_wp2_with fail
        refine HKI.out.mono ?_
        rintro e' W9 ⟨rfl, hb9⟩
        have HB9 := Lib.hid hb9
        have HOB9 : Hid (Below wo.heap.size wo W9) := Lib.hid (HOB8.out.trans (hb9.mono HOB8.out.size))
        have BE9 := Lib.hid (BE8.out.below hb9 hz8)
        have HN9 : Hid (NumsIn 2 .i64 wo.heap.size W9.heap.size W9 cn (.slice Y cn.length z2)) := Lib.hid ((HN8.out.below hb9 (Nat.le_refl _)).more hb9.size)
        clear p0 p1 p2 p3 p4 p5 p6 e0 e1 e2 hb9 HKI
        have BD9 := Lib.hid (HBD.out.below HOB9.out hfar2)
        have e0 : W9.cell? ⟨gE, 0, none⟩ = some (.string f0) := BE9.out.cell 0
        have e1 : W9.cell? ⟨gE, 1, none⟩ = some (.string ct) := BE9.out.cell 1
        have e2 : W9.cell? ⟨gE, 2, none⟩ = some (.slice Y cn.length z2) := BE9.out.cell 2
        have e3 : W9.cell? ⟨gd, 0, none⟩ = some (.slice Ao pre.length co) := BD9.out.cell 0
        have hz9 : wo.heap.size ≤ W9.heap.size := HOB9.out.size
        obtain ⟨j0, hj1, hj2, hj3, hj4⟩ := info_parts infoE
        obtain ⟨nvs, hxo, hxa⟩ := HROW.out
        obtain ⟨xs, hxs⟩ : ∃ xs, vals3 epre pre nvs = xs := ⟨_, rfl⟩
        have HXS := Lib.hid hxs
        rw [hxs] at hxo
        have HXA := Lib.hid hxa; have HXO := Lib.hid hxo
        clear hxs
        have hown := own_below hxo HOB9.out
        have hpk : pre.length ≤ k := Nat.le_of_eq HPL.out
        clear hxa hxo
        go_wp2_with (at_builtin; refine wpList_append_any _ rfl (.tmp 84) (.tmp 86) 28 rfl gd 68 j0 _ 3 56 Tryz.underlying28 hj1 hj2 hj3 hj4 rfl (by decide) _ _ xs rfl (hown.alloc _) (W9.heap.size + 1) (some ⟨W9.heap.size, 0, none⟩) 1 1 [.string f0, .string ct, .slice Y cn.length z2] rfl ?db1 ?db2 ?db3 ?db4 ?db5 ?_)
        case db1 => exact ⟨rfl, fun _ => ⟨_, rfl, by simp, fun j u hu => cells_new W9 [.string f0, .string ct, .slice Y cn.length z2] _ j u hu⟩⟩
        case db2 => intro u hu; simp only [List.mem_cons, List.not_mem_nil, or_false] at hu; rcases hu with rfl | rfl | rfl <;> rfl
        case db3 => unfold maxLen; omega
        case db4 => omega
        case db5 => simp; omega
        intro v' wA ho hg hv
        obtain ⟨g', cap', rfl⟩ := ownsRow_succ ho
        have HRG : Hid (RowN 68 2 .i64 epre ET.nums gd wA (.slice (some ⟨g', 0, none⟩) (pre.length + 1) cap') (pre ++ [(⟨f0, ct, cn⟩ : ET)])) := Lib.hid (by
          have hal : Below W9.heap.size W9 (W9.alloc (.cells #[.string f0, .string ct, .slice Y cn.length z2] 68)) := (Below.refl _ _).alloc (Nat.le_refl _) _
          exact rowN_step (wr := wo) (w3 := W9.alloc (.cells #[.string f0, .string ct, .slice Y cn.length z2] 68)) (by decide) (by rw [HXS.out]; exact HXO.out) HXA.out ((HN9.out.below hal (Nat.le_refl _)).more hal.size) (HOB9.out.alloc hz9 _) (by rw [HXS.out]; exact ho) hg)
        have hkb : ∀ {g : Nat} {cs : Array Value} {t : TypeId}, Blk W9 g t cs → 68 ≠ t → Blk wA g t cs := fun h hne => (h.alloc _).grown hg (fun e => own_blk_ne hown h hne e.symm)
        have hbs9 := hkb (HBS.out.below HOB9.out (by omega)) (by decide)
        have hbr9 := hkb (HBR.out.below HOB9.out (by omega)) (by decide)
        have hbd9 := hkb BD9.out (by decide)
        have hnr : (Value.slice (some ⟨g', 0, none⟩) (pre.length + 1) cap').ownBlock ≠ some gd := own_blk_ne ho hbd9 (by decide)
        have HBLA : Hid (Below w.heap.size w wA) := Lib.hid (((HBL.out.trans (HOB9.out.mono hsz)).alloc (by omega) _).grown hg (by simp; omega) (fun r h => by have := (hown.lt r h).1; omega))
        have hza : gd < wA.heap.size := hbd9.lt
        have f0' : wA.cell? ⟨gd, 0, none⟩ = some (.slice Ao pre.length co) := hbd9.cell 0
        have f1' : wA.frozen? ⟨gd, 0, none⟩ = false := hbd9.frozen 0
        have HST : Hid (BackStN w (.slice (some sd) l.length cA) l cs R gd (k + 1) (wA.setCell ⟨gd, 0, none⟩ (.slice (some ⟨g', 0, none⟩) (pre.length + 1) cap'))) := Lib.hid (by
          refine ⟨⟨pre ++ [(⟨f0, ct, cn⟩ : ET)], .slice (some ⟨g', 0, none⟩) (pre.length + 1) cap', ?_, by simp [HPL.out], rowN_grown HRG.out (only_setCell (World.grownBy.refl wA _) (.inl rfl) _) (.inr hnr) (fun r hr => by cases hr; exact ⟨_, _, _, hbd9, by decide⟩), hbd9.set_ 0 _⟩, hbs9.far (p := ⟨gd, 0, none⟩) (by show w.heap.size ≠ gd; omega) _, hbr9.far (p := ⟨gd, 0, none⟩) (by show w.heap.size + 1 ≠ gd; omega) _, HBLA.out.setCell (by show w.heap.size ≤ gd; omega) _, hfar1, by simpa [World.setCell] using hza⟩
          have := HGN.out
          rw [HBE.out] at this
          exact this)
        clear ho hg hv hkb hbs9 hbr9 hbd9 hnr hown e0 e1 e2 e3 HRG HXA HXO
        go_wp2_with fail
        go_roundw
        case rel => exact ⟨k + 1, by omega, by go_num, HST⟩
        case measure => simp [intOf]; omega
theorem back_any (u x : Value) (l : List FT) (cs : List CT) (w : World) (hu : T.At bare w (fun g => g < w.heap.size) (fieldsT l) u) (hl : l.length * 72 ≤ 140737488351232) (hf : ∀ f ∈ l, FOk f)
    (hx : T.At bare w (fun g => g < w.heap.size) (cellsT cs) x) (hd : cs.length * 56 ≤ 140737488351232) (he : ∀ c ∈ cs, COk c) (hO : Lib.TabIs Tryz.prog w "internal/strconv.uint64pow10" .u64 Lib.pow10Tab) :
    Calls Tryz.prog 11 #[.agg #[u], x] w (BackRet (backF txtO l cs) w) :=
  (back_anyN u x l cs w hu hl hf hx hd he hO).mono fun e w' ⟨h1, h2⟩ => ⟨h1, by
    revert h2
    cases backF txtO l cs with
    | error n => exact id
    | ok es => rintro ⟨v, h3, h4⟩; exact ⟨v, h3, rowN_entries h4⟩⟩
end Go.Proofs.YtfckomjbgopmaaaGreatDoor.Sch
