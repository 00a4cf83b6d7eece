/- Contract: lecternref18.sort (written by gen_rsort.py). Contract: the document's Own at the kinds 1 .. 5. Written by gen_rown.py. -/
import Derived.Test.YtinmiekbhoemjaaGreatDoorPack15
import Derived.Deep.CutRange
import Derived.BigQuiet
import Derived.Deep.RegionHeld3
import Derived.Test.YtinmiekbhoemjaaGreatDoorPack14
section
set_option linter.unusedVariables false
namespace Go.Proofs.YtinmiekbhoemjaaGreatDoor.Qck
open Go.RowKit Words Tree SchP QckP Kit Owned Sch Qry
/-- A field's place, or none. -/
theorem find_cases (l : List FT) (s : ByteArray) : (findZ l s = -1 ∧ fieldG l s = (zeroF, 81)) ∨ ∃ (i : Nat) (hi : i < l.length), findZ l s = (i : Int) ∧ fieldG l s = (l[i], 0) := by
  cases hf : findF l s with
  | none => exact .inl ⟨by rw [findZ_eq, hf]; rfl, by rw [fieldG, fieldF, hf]; rfl⟩
  | some i =>
    obtain ⟨hi, -, -⟩ := findF_some hf
    exact .inr ⟨i, hi, by rw [findZ_eq, hf]; rfl, by rw [fieldG, fieldF, hf]; simp [hi]⟩
theorem sortHas_step (ks : List SortT) (k j : Nat) (f : ByteArray) (hj : j < k) (hk : k < ks.length) : ((ks.take k).drop j).any (fun b => decide (b.field = f)) = (decide ((ks[j]'(by omega)).field = f) || ((ks.take k).drop (j + 1)).any fun b => decide (b.field = f)) := by
  have hl : j < (ks.take k).length := by rw [List.length_take]; omega
  rw [List.drop_eq_getElem_cons hl, List.any_cons, List.getElem_take]
set_option maxRecDepth 100000 in
set_option maxHeartbeats 4000000 in
theorem refSort_any (u : Value) (l : List FT) (ks : List SortT) (v : Value) (w : World) (hu : T.At bare w (fun g => g < w.heap.size) (fieldsT l) u) (hl : l.length * 72 ≤ 140737488351232) (hv : T.At bare w (fun g => g < w.heap.size) (rowT 3 scells ks) v) (hkl : ks.length * 24 ≤ 140737488351232) :
    Calls Tryz.prog 21 #[.agg #[u], v] w (Sch.IntB (sortF l ks) w) := by
  have HFI := Lib.hid (fun (s : ByteArray) (W : World) (hW : Below w.heap.size w W) => refFind_any u l s W (At.below hu hW (fun g hg => Nat.lt_of_lt_of_le hg hW.size)) hl)
  obtain ⟨AF, capF, rfl, hcF, hmF, helF⟩ := at_row fcells_len hu
  have ELF := Lib.hid helF
  obtain ⟨A, cap, rfl, hcp, hm, hel⟩ := skeys_of hv
  have EL := Lib.hid hel
  clear hv hu helF hel
  have HSB : Hid (∀ W, Below (w.heap.size + 1) (w.alloc (.cells #[.slice AF l.length capF] 24)) W → W.cell? ⟨w.heap.size, 0, none⟩ = some (.slice AF l.length capF)) := Lib.hid (fun W hW => ((Blk.new w _ _).below hW (by simp)).cell 0)
  have hB0 : Below w.heap.size w (w.alloc (.cells #[.slice AF l.length capF] 24)) := (Below.refl _ w).alloc (Nat.le_refl _) _
  have HB0 := Lib.hid hB0
  clear hB0
  have hz0 : (w.alloc (.cells #[.slice AF l.length capF] 24)).heap.size = w.heap.size + 1 := by simp
  by_cases h4 : 4 < ks.length
  · have hd4 : decide ((4 : Int) < (ks.length : Int)) = true := decide_eq_true (by omega)
    have HR : Hid (sortF l ks = 183) := Lib.hid (by rw [sortF, if_pos h4])
    clear h4
    go_enter Tryz.func21, Tryz.ntmps21
    go_wp2_with fail
    go_ret
    exact ⟨by rw [HR.out]; rfl, HB0.out⟩
  have hd4 : decide ((4 : Int) < (ks.length : Int)) = false := decide_eq_false (by omega)
  obtain ⟨F, hF⟩ : ∃ F : Nat → Int, F = fun i => match ks[i]? with
    | none => 0
    | some k => sortO l k (ks.take i) := ⟨_, rfl⟩
  obtain ⟨r, hr⟩ : ∃ r, sortF l ks = r := ⟨_, rfl⟩
  have HR : Hid (firstE F 0 (ks.length - 0) = r) := Lib.hid (by rw [← hr, sortF, if_neg h4, hF]; rfl)
  have HFF := Lib.hid hF
  rw [hr]
  clear hr hF
  go_enter Tryz.func21, Tryz.ntmps21
  go_upto_region 4 with fail
  generalize w.alloc (.cells #[.slice AF l.length capF] 24) = W0 at *
  have HBw : Hid (∀ W, Below (w.heap.size + 1) W0 W → Below w.heap.size w W) := Lib.hid (fun W hW => HB0.out.trans (hW.mono (by omega)))
  go_loopw [5] (fun i wr => ∃ k : Nat, k ≤ ks.length ∧ i = .int .i64 k ∧ Hid (firstE F k (ks.length - k) = r) ∧ Hid (Below (w.heap.size + 1) W0 wr)) (fun i _ => ks.length - (intOf i).toNat)
  case atStart => exact ⟨0, by omega, rfl, HR, Lib.hid (Below.refl _ _)⟩
  case round =>
    obtain ⟨k, hkk, rfl, HK, HW⟩ := hrel
    by_cases hlt : k < ks.length
    · have hlt2 : (k : Int) < (ks.length : Int) := by omega
      have hk0 : (0 : Int) ≤ (k : Int) := by omega
      obtain ⟨ad, rfl, hba, cu⟩ := EL.out k hlt
      have HCE : Hid (∀ W, Below w.heap.size w W → W.cell? (ad.add (k * 3)) = some (.string ks[k].field)) := Lib.hid (fun W hW => (hW.cell (by rw [block_of_add]; exact hba)).trans cu.zero)
      have hab : (ad.add (k * 3)).block < w.heap.size := by rw [block_of_add]; exact hba
      have HD := Lib.hid ((firstE_step F k ks.length hlt).symm.trans HK.out)
      have HFk : Hid (F k = orE (sortA l ks[k].field) (if (ks.take k).any (fun b => decide (b.field = ks[k].field)) then 183 else 0)) := Lib.hid (by rw [HFF.out]; simp only [List.getElem?_eq_getElem hlt]; rw [sortO_eq])
      generalize ks[k] = q at *
      obtain ⟨f, d, fi⟩ := q
      dsimp only at *
      have HG := Lib.hid (fieldG_two l f)
      obtain ⟨bn, hbn⟩ : ∃ bn : Bool, bn = !(decide (f.size = 0) || decide (f = ⟨#[35]⟩)) := ⟨_, rfl⟩
      have HBN := Lib.hid hbn
      have a0 := HCE.out wr (HBw.out wr HW.out)
      have hzr : w.heap.size + 1 ≤ wr.heap.size := by have := HW.out.size; omega
      clear hbn cu
      go_upto_region 6 with fail
      go_cut [30] from 11 to 71 (fun c wx => c = .bool bn ∧ wr = wx)
      case first =>
        rcases empty_cases f with rfl | ⟨hne, hn2, hn3, hn4, hn5⟩
        · obtain rfl : bn = false := by rw [HBN.out]; rfl
          go_wp2_with fail
          go_meet
          exact ⟨rfl, rfl⟩
        · rcases str_cases f ⟨#[35]⟩ with ⟨h1, h2⟩ | ⟨h1, h2⟩
          · subst h1
            obtain rfl : bn = false := by rw [HBN.out]; rfl
            go_wp2_with fail
            go_meet
            exact ⟨rfl, rfl⟩
          · obtain rfl : bn = true := by rw [HBN.out, decide_eq_false hn5, decide_eq_false h1]; rfl
            have h3 : (f.toList == [(35 : UInt8)]) = false := by rwa [show (⟨#[35]⟩ : ByteArray).toList = [35] from by rw [ByteArray.toList_eq]] at h2
            clear hn5
            go_wp2_with fail
            go_meet
            exact ⟨rfl, rfl⟩
      case rest =>
      obtain ⟨rfl, rfl⟩ := hcut
      go_upto_if 30 with fail
      go_cut [6] from 11 to 71 (fun _ wx => Hid (Below (w.heap.size + 1) W0 wx) ∧ Hid (sortA l f = 0))
      case first =>
        cases bn with
        | false =>
          have HZ : Hid (sortA l f = 0) := Lib.hid (by
            have := HBN.out
            rw [sortA, if_pos]
            by_cases h1 : f.size = 0
            · exact .inl h1
            · refine .inr ?_
              by_cases h2 : f = ⟨#[35]⟩
              · exact h2
              · rw [decide_eq_false h1, decide_eq_false h2] at this; cases this)
          go_wp2_with fail
          go_meet
          exact ⟨HW, HZ⟩
        | true =>
          have HZ : Hid (sortA l f = if (fieldG l f).2 = 0 then (if (fieldG l f).1.kind = 1 ∨ (fieldG l f).1.kind = 5 then 183 else 0) else (fieldG l f).2) := Lib.hid (by
            have := HBN.out
            rw [sortA, if_neg]
            rintro (h1 | h1)
            · rw [decide_eq_true h1] at this; cases this
            · rw [decide_eq_true h1] at this; simp at this)
          go_upto_region 7 with fail
          have hd6 : Below wr.heap.size wr wr.drew := (Below.refl _ wr).drew
          clear a0
          refine wp_region_held_drew (S := fun V => Below wr.heap.size wr V) (by kernel_rfl) hd6 (fun hSf0 => ?_)
          refine' wpAnyH_take (i := 0) (v := _) (by simp only [List.getElem?_toArray, List.getElem?_cons_zero]; rfl) (by kernel_rfl) (by kernel_rfl) (by kernel_rfl) (by exact fun _ _ _ h => h) (Or.inl ⟨by rfl, ?hyf0⟩) hSf0 ?restf0
          case hyf0 => intro V hSw; have fq := HSB.out V (HW.out.trans (hSw.mono hzr)); clear hSw; go_simp; try with_reducible rfl
          try simp only [Act.put, List.setIfInBounds_toArray, List.set_cons_zero, List.set_cons_succ]
          refine' wpAnyH_take (i := 1) (v := _) (by simp only [List.getElem?_toArray, List.getElem?_cons_succ, List.getElem?_cons_zero]; rfl) (by kernel_rfl) (by kernel_rfl) (by kernel_rfl) (by exact fun _ _ _ h => h) (Or.inl ⟨by rfl, ?hyf1⟩) hSf0 ?restf1
          case hyf1 => intro V hSw; clear hSw; go_simp; try with_reducible rfl
          try simp only [Act.put, List.setIfInBounds_toArray, List.set_cons_zero, List.set_cons_succ]
          refine' wpAnyH_take (i := 2) (v := _) (by simp only [List.getElem?_toArray, List.getElem?_cons_succ, List.getElem?_cons_zero]; rfl) (by kernel_rfl) (by kernel_rfl) (by kernel_rfl) (by exact fun _ _ _ h => h) (Or.inl ⟨by rfl, ?hyf2⟩) hSf0 ?restf2
          case hyf2 => intro V hSw; clear hSw; go_simp; try with_reducible rfl
          try simp only [Act.put, List.setIfInBounds_toArray, List.set_cons_zero, List.set_cons_succ]
          refine' wpAnyH_take (i := 3) (v := _) (by simp only [List.getElem?_toArray, List.getElem?_cons_succ, List.getElem?_cons_zero]; rfl) (by kernel_rfl) (by kernel_rfl) (by kernel_rfl) (by exact fun _ _ _ h => h) (Or.inl ⟨by rfl, ?hyf3⟩) hSf0 ?restf3
          case hyf3 => intro V hSw; clear hSw; go_simp; try with_reducible rfl
          try simp only [Act.put, List.setIfInBounds_toArray, List.set_cons_zero, List.set_cons_succ]
          refine' wpAnyH_take (i := 4) (v := _) (by simp only [List.getElem?_toArray, List.getElem?_cons_succ, List.getElem?_cons_zero]; rfl) (by kernel_rfl) (by kernel_rfl) (by kernel_rfl) (by exact fun _ _ _ h => h) (Or.inl ⟨by rfl, ?hyf4⟩) hSf0 ?restf4
          case hyf4 => intro V hSw; clear hSw; go_simp; try with_reducible rfl
          try simp only [Act.put, List.setIfInBounds_toArray, List.set_cons_zero, List.set_cons_succ]
          refine' wpAnyH_take (i := 5) (v := _) (by simp only [List.getElem?_toArray, List.getElem?_cons_succ, List.getElem?_cons_zero]; rfl) (by kernel_rfl) (by kernel_rfl) (by kernel_rfl) (by exact fun _ _ _ h => h) (Or.inl ⟨by rfl, ?hyf5⟩) hSf0 ?restf5
          case hyf5 => intro V hSw; have fq := HCE.out V (HBw.out _ (HW.out.trans (hSw.mono hzr))); clear hSw; go_simp; try with_reducible rfl
          try simp only [Act.put, List.setIfInBounds_toArray, List.set_cons_zero, List.set_cons_succ]
          refine wpAnyH_ready (rs := [6]) (by kernel_rfl) (by simp) ?_
          refine' AllReadyH.cons (by simp only [List.getElem?_toArray, List.getElem?_cons_succ, List.getElem?_cons_zero]; rfl) (fun K hK => ?_) AllReadyH.nil
          go_simp
          refine (HFI.out f _ (HBw.out _ (HW.out.trans (hSf0.mono hzr)))).mono ?_
          rintro e Vf1 ⟨rfl, q⟩
          have Bf1 := Lib.hid (Below.trans hSf0 (q.mono (hSf0).size))
          clear q
          go_simp
          refine hK.out _ _ Bf1.out (fun hSf1 => ?_)
          try simp only [Act.put, List.setIfInBounds_toArray, List.set_cons_zero, List.set_cons_succ]
          refine' wpAnyH_take (i := 7) (v := _) (by simp only [List.getElem?_toArray, List.getElem?_cons_succ, List.getElem?_cons_zero]; rfl) (by kernel_rfl) (by kernel_rfl) (by kernel_rfl) (by exact fun _ _ _ h => h) (Or.inl ⟨by rfl, ?hyf7⟩) hSf1 ?restf7
          case hyf7 => intro V hSw; clear hSw; go_simp; try with_reducible rfl
          try simp only [Act.put, List.setIfInBounds_toArray, List.set_cons_zero, List.set_cons_succ]
          refine wpAnyH_done (by kernel_rfl) ?_ _
          have HB7 := Lib.hid (HW.out.trans (Bf1.out.mono hzr))
          clear hSf0 hSf1 hd6
          rcases find_cases l f with ⟨hz, hG⟩ | ⟨i, hi, hz, hG⟩
          · have HY : Hid (r = 81) := Lib.hid (by rw [← HD.out, HFk.out, HZ.out, hG]; rfl)
            rw [hz]
            clear hz hG
            go_wp2_with fail
            go_ret
            rw [HY.out]
            exact ⟨rfl, HBw.out _ HB7.out⟩
          · obtain ⟨adF, us, rfl, hbf, af, lf, cf⟩ := ELF.out i hi
            replace cf := cf.keep (w' := Vf1) (fun p hp => (HBw.out _ HB7.out).cell (by rw [hp, block_of_add]; exact hbf))
            have hi2 : (i : Int) < (l.length : Int) := by omega
            have hi0 : (0 : Int) ≤ (i : Int) := by omega
            have HZ2 : Hid (sortA l f = if l[i].kind = 1 ∨ l[i].kind = 5 then 183 else 0) := Lib.hid (by rw [HZ.out, hG]; rfl)
            have HSE := Lib.hid (HSB.out _ HB7.out)
            rw [hz]
            generalize l[i] = fe at *
            obtain ⟨f0, f1, f2, f3, f4, f5, f6⟩ := fe
            obtain ⟨vc, rfl, gc⟩ := at_fcells af
            obtain ⟨x0, x1, x2, x3, x4, x5, x6⟩ := seven cf
            have s0 := HSE.out
            dsimp only at *
            clear hz hG cf af lf gc HSE x0 x2 x3 x4 x5 x6
            rcases (show f1 = 1 ∨ f1 = 5 ∨ (¬ f1 = 1 ∧ ¬ f1 = 5) by omega) with rfl | rfl | ⟨g1, g5⟩
            · have HY : Hid (r = 183) := Lib.hid (by rw [← HD.out, HFk.out, HZ2.out]; rfl)
              go_wp2_with fail
              go_ret
              rw [HY.out]
              exact ⟨rfl, HBw.out _ HB7.out⟩
            · have HY : Hid (r = 183) := Lib.hid (by rw [← HD.out, HFk.out, HZ2.out]; rfl)
              go_wp2_with fail
              go_ret
              rw [HY.out]
              exact ⟨rfl, HBw.out _ HB7.out⟩
            · have k1 : (f1 == (1 : Int)) = false := by rw [beq_eq_false_iff_ne]; exact g1
              have k5 : (f1 == (5 : Int)) = false := by rw [beq_eq_false_iff_ne]; exact g5
              have HY : Hid (sortA l f = 0) := Lib.hid (by rw [HZ2.out]; simp [g1, g5])
              clear g1 g5
              go_wp2_with fail
              go_meet
              exact ⟨HB7, HY⟩
      case rest =>
      obtain ⟨HWc, HA0⟩ := hcut
      have HD2 : Hid (orE (if ((ks.take k).any fun b => decide (b.field = f)) = true then 183 else 0) (firstE F (k + 1) (ks.length - (k + 1))) = r) := Lib.hid (by
        rw [← HD.out, HFk.out, HA0.out]; rfl)
      obtain ⟨bt, hbt⟩ : ∃ bt, ((ks.take k).any fun b => decide (b.field = f)) = bt := ⟨_, rfl⟩
      have HT0 : Hid ((((ks.take k).drop 0).any fun b => decide (b.field = f)) = bt) := Lib.hid hbt
      rw [hbt] at HD2
      clear HD HFk hbt a0 HG HBN
      go_wp2_with fail
      go_loopw [7] (fun i w2 => ∃ j : Nat, j ≤ k ∧ i = .int .i64 j ∧ Hid ((((ks.take k).drop j).any fun b => decide (b.field = f)) = bt) ∧ Hid (Below (w.heap.size + 1) W0 w2)) (fun i _ => k - (intOf i).toNat)
      case atStart => exact ⟨0, by omega, rfl, HT0, HWc⟩
      case round =>
        obtain ⟨j, hj, rfl, HJ, HW2⟩ := hrel
        by_cases hjl : j < k
        · have hjl2 : (j : Int) < (ks.length : Int) := by omega
          have hjl3 : (j : Int) < (k : Int) := by omega
          have hj0 : (0 : Int) ≤ (j : Int) := by omega
          obtain ⟨ad', hadE, hba', cu'⟩ := EL.out j (by omega)
          obtain rfl : ad = ad' := by injection hadE
          have b0 := (((HBw.out _ HW2.out).cell (p := ad.add (j * 3)) (by rw [block_of_add]; exact hba)).trans cu'.zero)
          have a0 := HCE.out _ (HBw.out _ HW2.out)
          have HJS := Lib.hid ((sortHas_step ks k j f hjl hlt).symm.trans HJ.out)
          generalize (ks[j]'(by omega)).field = g at *
          clear cu' hadE
          go_upto_region 15 with fail
          rcases str_cases g f with ⟨h1, h2⟩ | ⟨h1, h2⟩
          · have HY : Hid (bt = true) := Lib.hid (by rw [← HJS.out, decide_eq_true h1]; rfl)
            have HX : Hid (r = 183) := Lib.hid (by rw [← HD2.out, HY.out]; rfl)
            clear h1
            go_quiet (fail)
            go_wp2_with fail
            go_ret
            rw [HX.out]
            exact ⟨rfl, HBw.out _ (below_drewN HW2.out _)⟩
          · have HJ2 : Hid ((((ks.take k).drop (j + 1)).any fun b => decide (b.field = f)) = bt) := Lib.hid (by rw [← HJS.out, decide_eq_false h1]; rfl)
            clear h1
            go_quiet (fail)
            go_wp2_with fail
            go_roundw
            case rel => exact ⟨j + 1, by omega, by go_num, HJ2, Lib.hid (below_drewN HW2.out _)⟩
            case measure => simp [intOf]; omega
        · obtain rfl : j = k := by omega
          have HY : Hid (bt = false) := Lib.hid (by rw [← HJ.out, List.drop_eq_nil_of_le (by rw [List.length_take]; omega)]; rfl)
          have HX : Hid (firstE F (j + 1) (ks.length - (j + 1)) = r) := Lib.hid (by rw [← HD2.out, HY.out]; rfl)
          go_wp2_with fail
          go_roundw
          case rel => exact ⟨j + 1, by omega, by go_num, HX, HW2⟩
          case measure => simp [intOf]; omega
    · obtain rfl : k = ks.length := by omega
      have HZ : Hid (r = 0) := Lib.hid (by rw [← HK.out, Nat.sub_self, firstE])
      go_wp2_with fail
      go_ret
      rw [HZ.out]
      exact ⟨rfl, HBw.out _ HW.out⟩
end Go.Proofs.YtinmiekbhoemjaaGreatDoor.Qck
end
section
set_option linter.unusedVariables false
namespace Go.Proofs.YtinmiekbhoemjaaGreatDoor.Qry
open Go.RowKit Words Tree QryP Kit Sch SchP
section
variable (k oc : Int) (f t u : ByteArray) (lo hi : List Int) (ks : List QT) (L H K : Option Addr) (cl ch ck : Nat) (b op under : Int) (w : World)
set_option maxRecDepth 100000 in
set_option maxHeartbeats 32000000 in
theorem rown_1_0 (ho : occB under oc = true ∧ under = 8 ∧ 1 ≤ oc ∧ oc ≤ 4) (hf : f.size ≤ 140737488351232) :
    Calls Tryz.prog 41 #[.agg #[.int .i64 1, .int .i64 oc, .string f, .string t, .string u, .slice L lo.length cl, .slice H hi.length ch, .int .i64 b, .int .i64 op, .slice K ks.length ck], .int .i64 under] w (AnsB (ownB (.mk 1 oc f t u lo hi b op ks) under) w) := by
  have HN := Lib.hid (fun W => refName_any f W hf)
  have hfl := own_flat (k := 1) (oc := oc) (f := f) (t := t) (u := u) (lo := lo) (hi := hi) (b := b) (op := op) (under := under) (ks := ks)
  obtain ⟨r, hr⟩ : ∃ r, ownB (.mk 1 oc f t u lo hi b op ks) under = r := ⟨_, rfl⟩
  rw [hr] at hfl ⊢
  clear hr
  obtain ⟨hocc, h1, h2, h3⟩ := ho
  subst h1
  have d1 : decide (oc < 1) = false := decide_eq_false (by omega)
  have d2 : decide (4 < oc) = false := decide_eq_false (by omega)
  rw [hocc] at hfl
  have HR := Lib.hid hfl
  clear hfl hocc
  generalize lo.length = nl at *
  generalize hi.length = nh at *
  generalize ks.length = nk at *
  have HNF : Hid (nameB f = true → ¬ f.size = 0) := Lib.hid (fun h => by simp only [nameB, Bool.and_eq_true, decide_eq_true_eq] at h; omega)
  generalize nameB f = nb at *
  go_enter Tryz.func41, Tryz.ntmps41
  go_wp2_with fail
  refine (HN.out _).mono ?_
  rintro e W1 ⟨rfl, hb⟩
  have HB := Lib.hid (((Below.refl _ w).alloc (Nat.le_refl _) _).trans (hb.mono (by simp)))
  obtain ⟨c0, c1, c2, c3, c4, c5, c6, c7, c8, c9⟩ := tenB ((Blk.new w _ _).below hb (by simp))
  clear hb
  cases nb
  all_goals
    go_wp2_with fail
    all_goals
      go_ret
      refine ⟨?_, HB.out⟩
      rw [HR.out]
      clear c0 c1 c2 c3 c4 c5 c6 c7 c8 c9 HR HN
      first | have hf0 := HNF.out rfl | have hf0 := HNF.out
      clear HNF
      simp_all [size_nil] <;> first | (intros; omega) | (rw [Bool.eq_iff_iff]; simp; done) | (intros; contradiction) | (intros; simp_all; done) | (intros; simp_all; omega) | (rw [Bool.eq_iff_iff]; simp; omega) | (rw [Bool.eq_iff_iff]; simp; intros; omega)
set_option maxRecDepth 100000 in
set_option maxHeartbeats 32000000 in
theorem rown_1_1 (ho : occB under oc = true ∧ ¬ under = 8 ∧ oc = 0) (hf : f.size ≤ 140737488351232) :
    Calls Tryz.prog 41 #[.agg #[.int .i64 1, .int .i64 oc, .string f, .string t, .string u, .slice L lo.length cl, .slice H hi.length ch, .int .i64 b, .int .i64 op, .slice K ks.length ck], .int .i64 under] w (AnsB (ownB (.mk 1 oc f t u lo hi b op ks) under) w) := by
  have HN := Lib.hid (fun W => refName_any f W hf)
  have hfl := own_flat (k := 1) (oc := oc) (f := f) (t := t) (u := u) (lo := lo) (hi := hi) (b := b) (op := op) (under := under) (ks := ks)
  obtain ⟨r, hr⟩ : ∃ r, ownB (.mk 1 oc f t u lo hi b op ks) under = r := ⟨_, rfl⟩
  rw [hr] at hfl ⊢
  clear hr
  obtain ⟨hocc, h1, h2⟩ := ho
  subst h2
  have d1 : (under == 8) = false := by simpa using h1
  have d2 : (under != 8) = true := by simpa using h1
  clear h1
  rw [hocc] at hfl
  have HR := Lib.hid hfl
  clear hfl hocc
  generalize lo.length = nl at *
  generalize hi.length = nh at *
  generalize ks.length = nk at *
  have HNF : Hid (nameB f = true → ¬ f.size = 0) := Lib.hid (fun h => by simp only [nameB, Bool.and_eq_true, decide_eq_true_eq] at h; omega)
  generalize nameB f = nb at *
  go_enter Tryz.func41, Tryz.ntmps41
  go_wp2_with fail
  refine (HN.out _).mono ?_
  rintro e W1 ⟨rfl, hb⟩
  have HB := Lib.hid (((Below.refl _ w).alloc (Nat.le_refl _) _).trans (hb.mono (by simp)))
  obtain ⟨c0, c1, c2, c3, c4, c5, c6, c7, c8, c9⟩ := tenB ((Blk.new w _ _).below hb (by simp))
  clear hb
  cases nb
  all_goals
    go_wp2_with fail
    all_goals
      go_ret
      refine ⟨?_, HB.out⟩
      rw [HR.out]
      clear c0 c1 c2 c3 c4 c5 c6 c7 c8 c9 HR HN
      first | have hf0 := HNF.out rfl | have hf0 := HNF.out
      clear HNF
      simp_all [size_nil] <;> first | (intros; omega) | (rw [Bool.eq_iff_iff]; simp; done) | (intros; contradiction) | (intros; simp_all; done) | (intros; simp_all; omega) | (rw [Bool.eq_iff_iff]; simp; omega) | (rw [Bool.eq_iff_iff]; simp; intros; omega)
set_option maxRecDepth 100000 in
set_option maxHeartbeats 32000000 in
theorem rown_2_0 (ho : occB under oc = true ∧ under = 8 ∧ 1 ≤ oc ∧ oc ≤ 4) (hf : f.size ≤ 140737488351232) :
    Calls Tryz.prog 41 #[.agg #[.int .i64 2, .int .i64 oc, .string f, .string t, .string u, .slice L lo.length cl, .slice H hi.length ch, .int .i64 b, .int .i64 op, .slice K ks.length ck], .int .i64 under] w (AnsB (ownB (.mk 2 oc f t u lo hi b op ks) under) w) := by
  have HN := Lib.hid (fun W => refName_any f W hf)
  have hfl := own_flat (k := 2) (oc := oc) (f := f) (t := t) (u := u) (lo := lo) (hi := hi) (b := b) (op := op) (under := under) (ks := ks)
  obtain ⟨r, hr⟩ : ∃ r, ownB (.mk 2 oc f t u lo hi b op ks) under = r := ⟨_, rfl⟩
  rw [hr] at hfl ⊢
  clear hr
  obtain ⟨hocc, h1, h2, h3⟩ := ho
  subst h1
  have d1 : decide (oc < 1) = false := decide_eq_false (by omega)
  have d2 : decide (4 < oc) = false := decide_eq_false (by omega)
  rw [hocc] at hfl
  have HR := Lib.hid hfl
  clear hfl hocc
  generalize lo.length = nl at *
  generalize hi.length = nh at *
  generalize ks.length = nk at *
  have HNF : Hid (nameB f = true → ¬ f.size = 0) := Lib.hid (fun h => by simp only [nameB, Bool.and_eq_true, decide_eq_true_eq] at h; omega)
  generalize nameB f = nb at *
  go_enter Tryz.func41, Tryz.ntmps41
  go_wp2_with fail
  refine (HN.out _).mono ?_
  rintro e W1 ⟨rfl, hb⟩
  have HB := Lib.hid (((Below.refl _ w).alloc (Nat.le_refl _) _).trans (hb.mono (by simp)))
  obtain ⟨c0, c1, c2, c3, c4, c5, c6, c7, c8, c9⟩ := tenB ((Blk.new w _ _).below hb (by simp))
  clear hb
  cases nb
  all_goals
    go_wp2_with fail
    all_goals
      go_ret
      refine ⟨?_, HB.out⟩
      rw [HR.out]
      clear c0 c1 c2 c3 c4 c5 c6 c7 c8 c9 HR HN
      first | have hf0 := HNF.out rfl | have hf0 := HNF.out
      clear HNF
      simp_all [size_nil] <;> first | (intros; omega) | (rw [Bool.eq_iff_iff]; simp; done) | (intros; contradiction) | (intros; simp_all; done) | (intros; simp_all; omega) | (rw [Bool.eq_iff_iff]; simp; omega) | (rw [Bool.eq_iff_iff]; simp; intros; omega)
set_option maxRecDepth 100000 in
set_option maxHeartbeats 32000000 in
theorem rown_2_1 (ho : occB under oc = true ∧ ¬ under = 8 ∧ oc = 0) (hf : f.size ≤ 140737488351232) :
    Calls Tryz.prog 41 #[.agg #[.int .i64 2, .int .i64 oc, .string f, .string t, .string u, .slice L lo.length cl, .slice H hi.length ch, .int .i64 b, .int .i64 op, .slice K ks.length ck], .int .i64 under] w (AnsB (ownB (.mk 2 oc f t u lo hi b op ks) under) w) := by
  have HN := Lib.hid (fun W => refName_any f W hf)
  have hfl := own_flat (k := 2) (oc := oc) (f := f) (t := t) (u := u) (lo := lo) (hi := hi) (b := b) (op := op) (under := under) (ks := ks)
  obtain ⟨r, hr⟩ : ∃ r, ownB (.mk 2 oc f t u lo hi b op ks) under = r := ⟨_, rfl⟩
  rw [hr] at hfl ⊢
  clear hr
  obtain ⟨hocc, h1, h2⟩ := ho
  subst h2
  have d1 : (under == 8) = false := by simpa using h1
  have d2 : (under != 8) = true := by simpa using h1
  clear h1
  rw [hocc] at hfl
  have HR := Lib.hid hfl
  clear hfl hocc
  generalize lo.length = nl at *
  generalize hi.length = nh at *
  generalize ks.length = nk at *
  have HNF : Hid (nameB f = true → ¬ f.size = 0) := Lib.hid (fun h => by simp only [nameB, Bool.and_eq_true, decide_eq_true_eq] at h; omega)
  generalize nameB f = nb at *
  go_enter Tryz.func41, Tryz.ntmps41
  go_wp2_with fail
  refine (HN.out _).mono ?_
  rintro e W1 ⟨rfl, hb⟩
  have HB := Lib.hid (((Below.refl _ w).alloc (Nat.le_refl _) _).trans (hb.mono (by simp)))
  obtain ⟨c0, c1, c2, c3, c4, c5, c6, c7, c8, c9⟩ := tenB ((Blk.new w _ _).below hb (by simp))
  clear hb
  cases nb
  all_goals
    go_wp2_with fail
    all_goals
      go_ret
      refine ⟨?_, HB.out⟩
      rw [HR.out]
      clear c0 c1 c2 c3 c4 c5 c6 c7 c8 c9 HR HN
      first | have hf0 := HNF.out rfl | have hf0 := HNF.out
      clear HNF
      simp_all [size_nil] <;> first | (intros; omega) | (rw [Bool.eq_iff_iff]; simp; done) | (intros; contradiction) | (intros; simp_all; done) | (intros; simp_all; omega) | (rw [Bool.eq_iff_iff]; simp; omega) | (rw [Bool.eq_iff_iff]; simp; intros; omega)
set_option maxRecDepth 100000 in
set_option maxHeartbeats 32000000 in
theorem rown_3_0 (ho : occB under oc = true ∧ under = 8 ∧ 1 ≤ oc ∧ oc ≤ 4) (hf : f.size ≤ 140737488351232) :
    Calls Tryz.prog 41 #[.agg #[.int .i64 3, .int .i64 oc, .string f, .string t, .string u, .slice L lo.length cl, .slice H hi.length ch, .int .i64 b, .int .i64 op, .slice K ks.length ck], .int .i64 under] w (AnsB (ownB (.mk 3 oc f t u lo hi b op ks) under) w) := by
  have HN := Lib.hid (fun W => refName_any f W hf)
  have hfl := own_flat (k := 3) (oc := oc) (f := f) (t := t) (u := u) (lo := lo) (hi := hi) (b := b) (op := op) (under := under) (ks := ks)
  obtain ⟨r, hr⟩ : ∃ r, ownB (.mk 3 oc f t u lo hi b op ks) under = r := ⟨_, rfl⟩
  rw [hr] at hfl ⊢
  clear hr
  obtain ⟨hocc, h1, h2, h3⟩ := ho
  subst h1
  have d1 : decide (oc < 1) = false := decide_eq_false (by omega)
  have d2 : decide (4 < oc) = false := decide_eq_false (by omega)
  rw [hocc] at hfl
  have HR := Lib.hid hfl
  clear hfl hocc
  generalize lo.length = nl at *
  generalize hi.length = nh at *
  generalize ks.length = nk at *
  have HNF : Hid (nameB f = true → ¬ f.size = 0) := Lib.hid (fun h => by simp only [nameB, Bool.and_eq_true, decide_eq_true_eq] at h; omega)
  generalize nameB f = nb at *
  go_enter Tryz.func41, Tryz.ntmps41
  go_wp2_with fail
  refine (HN.out _).mono ?_
  rintro e W1 ⟨rfl, hb⟩
  have HB := Lib.hid (((Below.refl _ w).alloc (Nat.le_refl _) _).trans (hb.mono (by simp)))
  obtain ⟨c0, c1, c2, c3, c4, c5, c6, c7, c8, c9⟩ := tenB ((Blk.new w _ _).below hb (by simp))
  clear hb
  cases nb
  all_goals
    go_wp2_with fail
    all_goals
      go_ret
      refine ⟨?_, HB.out⟩
      rw [HR.out]
      clear c0 c1 c2 c3 c4 c5 c6 c7 c8 c9 HR HN
      first | have hf0 := HNF.out rfl | have hf0 := HNF.out
      clear HNF
      simp_all [size_nil] <;> first | (intros; omega) | (rw [Bool.eq_iff_iff]; simp; done) | (intros; contradiction) | (intros; simp_all; done) | (intros; simp_all; omega) | (rw [Bool.eq_iff_iff]; simp; omega) | (rw [Bool.eq_iff_iff]; simp; intros; omega)
set_option maxRecDepth 100000 in
set_option maxHeartbeats 32000000 in
theorem rown_3_1 (ho : occB under oc = true ∧ ¬ under = 8 ∧ oc = 0) (hf : f.size ≤ 140737488351232) :
    Calls Tryz.prog 41 #[.agg #[.int .i64 3, .int .i64 oc, .string f, .string t, .string u, .slice L lo.length cl, .slice H hi.length ch, .int .i64 b, .int .i64 op, .slice K ks.length ck], .int .i64 under] w (AnsB (ownB (.mk 3 oc f t u lo hi b op ks) under) w) := by
  have HN := Lib.hid (fun W => refName_any f W hf)
  have hfl := own_flat (k := 3) (oc := oc) (f := f) (t := t) (u := u) (lo := lo) (hi := hi) (b := b) (op := op) (under := under) (ks := ks)
  obtain ⟨r, hr⟩ : ∃ r, ownB (.mk 3 oc f t u lo hi b op ks) under = r := ⟨_, rfl⟩
  rw [hr] at hfl ⊢
  clear hr
  obtain ⟨hocc, h1, h2⟩ := ho
  subst h2
  have d1 : (under == 8) = false := by simpa using h1
  have d2 : (under != 8) = true := by simpa using h1
  clear h1
  rw [hocc] at hfl
  have HR := Lib.hid hfl
  clear hfl hocc
  generalize lo.length = nl at *
  generalize hi.length = nh at *
  generalize ks.length = nk at *
  have HNF : Hid (nameB f = true → ¬ f.size = 0) := Lib.hid (fun h => by simp only [nameB, Bool.and_eq_true, decide_eq_true_eq] at h; omega)
  generalize nameB f = nb at *
  go_enter Tryz.func41, Tryz.ntmps41
  go_wp2_with fail
  refine (HN.out _).mono ?_
  rintro e W1 ⟨rfl, hb⟩
  have HB := Lib.hid (((Below.refl _ w).alloc (Nat.le_refl _) _).trans (hb.mono (by simp)))
  obtain ⟨c0, c1, c2, c3, c4, c5, c6, c7, c8, c9⟩ := tenB ((Blk.new w _ _).below hb (by simp))
  clear hb
  cases nb
  all_goals
    go_wp2_with fail
    all_goals
      go_ret
      refine ⟨?_, HB.out⟩
      rw [HR.out]
      clear c0 c1 c2 c3 c4 c5 c6 c7 c8 c9 HR HN
      first | have hf0 := HNF.out rfl | have hf0 := HNF.out
      clear HNF
      simp_all [size_nil] <;> first | (intros; omega) | (rw [Bool.eq_iff_iff]; simp; done) | (intros; contradiction) | (intros; simp_all; done) | (intros; simp_all; omega) | (rw [Bool.eq_iff_iff]; simp; omega) | (rw [Bool.eq_iff_iff]; simp; intros; omega)
set_option maxRecDepth 100000 in
set_option maxHeartbeats 32000000 in
theorem rown_4_0 (ho : occB under oc = true ∧ under = 8 ∧ 1 ≤ oc ∧ oc ≤ 4) (hf : f.size ≤ 140737488351232) :
    Calls Tryz.prog 41 #[.agg #[.int .i64 4, .int .i64 oc, .string f, .string t, .string u, .slice L lo.length cl, .slice H hi.length ch, .int .i64 b, .int .i64 op, .slice K ks.length ck], .int .i64 under] w (AnsB (ownB (.mk 4 oc f t u lo hi b op ks) under) w) := by
  have HN := Lib.hid (fun W => refName_any f W hf)
  have hfl := own_flat (k := 4) (oc := oc) (f := f) (t := t) (u := u) (lo := lo) (hi := hi) (b := b) (op := op) (under := under) (ks := ks)
  obtain ⟨r, hr⟩ : ∃ r, ownB (.mk 4 oc f t u lo hi b op ks) under = r := ⟨_, rfl⟩
  rw [hr] at hfl ⊢
  clear hr
  obtain ⟨hocc, h1, h2, h3⟩ := ho
  subst h1
  have d1 : decide (oc < 1) = false := decide_eq_false (by omega)
  have d2 : decide (4 < oc) = false := decide_eq_false (by omega)
  rw [hocc] at hfl
  have HR := Lib.hid hfl
  clear hfl hocc
  generalize lo.length = nl at *
  generalize hi.length = nh at *
  generalize ks.length = nk at *
  have HNF : Hid (nameB f = true → ¬ f.size = 0) := Lib.hid (fun h => by simp only [nameB, Bool.and_eq_true, decide_eq_true_eq] at h; omega)
  generalize nameB f = nb at *
  go_enter Tryz.func41, Tryz.ntmps41
  go_wp2_with fail
  refine (HN.out _).mono ?_
  rintro e W1 ⟨rfl, hb⟩
  have HB := Lib.hid (((Below.refl _ w).alloc (Nat.le_refl _) _).trans (hb.mono (by simp)))
  obtain ⟨c0, c1, c2, c3, c4, c5, c6, c7, c8, c9⟩ := tenB ((Blk.new w _ _).below hb (by simp))
  clear hb
  cases nb
  all_goals
    go_wp2_with fail
    all_goals
      go_ret
      refine ⟨?_, HB.out⟩
      rw [HR.out]
      clear c0 c1 c2 c3 c4 c5 c6 c7 c8 c9 HR HN
      first | have hf0 := HNF.out rfl | have hf0 := HNF.out
      clear HNF
      simp_all [size_nil] <;> first | (intros; omega) | (rw [Bool.eq_iff_iff]; simp; done) | (intros; contradiction) | (intros; simp_all; done) | (intros; simp_all; omega) | (rw [Bool.eq_iff_iff]; simp; omega) | (rw [Bool.eq_iff_iff]; simp; intros; omega)
set_option maxRecDepth 100000 in
set_option maxHeartbeats 32000000 in
theorem rown_4_1 (ho : occB under oc = true ∧ ¬ under = 8 ∧ oc = 0) (hf : f.size ≤ 140737488351232) :
    Calls Tryz.prog 41 #[.agg #[.int .i64 4, .int .i64 oc, .string f, .string t, .string u, .slice L lo.length cl, .slice H hi.length ch, .int .i64 b, .int .i64 op, .slice K ks.length ck], .int .i64 under] w (AnsB (ownB (.mk 4 oc f t u lo hi b op ks) under) w) := by
  have HN := Lib.hid (fun W => refName_any f W hf)
  have hfl := own_flat (k := 4) (oc := oc) (f := f) (t := t) (u := u) (lo := lo) (hi := hi) (b := b) (op := op) (under := under) (ks := ks)
  obtain ⟨r, hr⟩ : ∃ r, ownB (.mk 4 oc f t u lo hi b op ks) under = r := ⟨_, rfl⟩
  rw [hr] at hfl ⊢
  clear hr
  obtain ⟨hocc, h1, h2⟩ := ho
  subst h2
  have d1 : (under == 8) = false := by simpa using h1
  have d2 : (under != 8) = true := by simpa using h1
  clear h1
  rw [hocc] at hfl
  have HR := Lib.hid hfl
  clear hfl hocc
  generalize lo.length = nl at *
  generalize hi.length = nh at *
  generalize ks.length = nk at *
  have HNF : Hid (nameB f = true → ¬ f.size = 0) := Lib.hid (fun h => by simp only [nameB, Bool.and_eq_true, decide_eq_true_eq] at h; omega)
  generalize nameB f = nb at *
  go_enter Tryz.func41, Tryz.ntmps41
  go_wp2_with fail
  refine (HN.out _).mono ?_
  rintro e W1 ⟨rfl, hb⟩
  have HB := Lib.hid (((Below.refl _ w).alloc (Nat.le_refl _) _).trans (hb.mono (by simp)))
  obtain ⟨c0, c1, c2, c3, c4, c5, c6, c7, c8, c9⟩ := tenB ((Blk.new w _ _).below hb (by simp))
  clear hb
  cases nb
  all_goals
    go_wp2_with fail
    all_goals
      go_ret
      refine ⟨?_, HB.out⟩
      rw [HR.out]
      clear c0 c1 c2 c3 c4 c5 c6 c7 c8 c9 HR HN
      first | have hf0 := HNF.out rfl | have hf0 := HNF.out
      clear HNF
      simp_all [size_nil] <;> first | (intros; omega) | (rw [Bool.eq_iff_iff]; simp; done) | (intros; contradiction) | (intros; simp_all; done) | (intros; simp_all; omega) | (rw [Bool.eq_iff_iff]; simp; omega) | (rw [Bool.eq_iff_iff]; simp; intros; omega)
set_option maxRecDepth 100000 in
set_option maxHeartbeats 32000000 in
theorem rown_5_0 (ho : occB under oc = true ∧ under = 8 ∧ 1 ≤ oc ∧ oc ≤ 4) (hf : f.size ≤ 140737488351232) :
    Calls Tryz.prog 41 #[.agg #[.int .i64 5, .int .i64 oc, .string f, .string t, .string u, .slice L lo.length cl, .slice H hi.length ch, .int .i64 b, .int .i64 op, .slice K ks.length ck], .int .i64 under] w (AnsB (ownB (.mk 5 oc f t u lo hi b op ks) under) w) := by
  have HN := Lib.hid (fun W => refName_any f W hf)
  have hfl := own_flat (k := 5) (oc := oc) (f := f) (t := t) (u := u) (lo := lo) (hi := hi) (b := b) (op := op) (under := under) (ks := ks)
  obtain ⟨r, hr⟩ : ∃ r, ownB (.mk 5 oc f t u lo hi b op ks) under = r := ⟨_, rfl⟩
  rw [hr] at hfl ⊢
  clear hr
  obtain ⟨hocc, h1, h2, h3⟩ := ho
  subst h1
  have d1 : decide (oc < 1) = false := decide_eq_false (by omega)
  have d2 : decide (4 < oc) = false := decide_eq_false (by omega)
  rw [hocc] at hfl
  have HR := Lib.hid hfl
  clear hfl hocc
  generalize lo.length = nl at *
  generalize hi.length = nh at *
  generalize ks.length = nk at *
  have HNF : Hid (nameB f = true → ¬ f.size = 0) := Lib.hid (fun h => by simp only [nameB, Bool.and_eq_true, decide_eq_true_eq] at h; omega)
  generalize nameB f = nb at *
  go_enter Tryz.func41, Tryz.ntmps41
  go_wp2_with fail
  refine (HN.out _).mono ?_
  rintro e W1 ⟨rfl, hb⟩
  have HB := Lib.hid (((Below.refl _ w).alloc (Nat.le_refl _) _).trans (hb.mono (by simp)))
  obtain ⟨c0, c1, c2, c3, c4, c5, c6, c7, c8, c9⟩ := tenB ((Blk.new w _ _).below hb (by simp))
  clear hb
  cases nb
  all_goals
    go_wp2_with fail
    all_goals
      go_ret
      refine ⟨?_, HB.out⟩
      rw [HR.out]
      clear c0 c1 c2 c3 c4 c5 c6 c7 c8 c9 HR HN
      first | have hf0 := HNF.out rfl | have hf0 := HNF.out
      clear HNF
      simp_all [size_nil] <;> first | (intros; omega) | (rw [Bool.eq_iff_iff]; simp; done) | (intros; contradiction) | (intros; simp_all; done) | (intros; simp_all; omega) | (rw [Bool.eq_iff_iff]; simp; omega) | (rw [Bool.eq_iff_iff]; simp; intros; omega)
set_option maxRecDepth 100000 in
set_option maxHeartbeats 32000000 in
theorem rown_5_1 (ho : occB under oc = true ∧ ¬ under = 8 ∧ oc = 0) (hf : f.size ≤ 140737488351232) :
    Calls Tryz.prog 41 #[.agg #[.int .i64 5, .int .i64 oc, .string f, .string t, .string u, .slice L lo.length cl, .slice H hi.length ch, .int .i64 b, .int .i64 op, .slice K ks.length ck], .int .i64 under] w (AnsB (ownB (.mk 5 oc f t u lo hi b op ks) under) w) := by
  have HN := Lib.hid (fun W => refName_any f W hf)
  have hfl := own_flat (k := 5) (oc := oc) (f := f) (t := t) (u := u) (lo := lo) (hi := hi) (b := b) (op := op) (under := under) (ks := ks)
  obtain ⟨r, hr⟩ : ∃ r, ownB (.mk 5 oc f t u lo hi b op ks) under = r := ⟨_, rfl⟩
  rw [hr] at hfl ⊢
  clear hr
  obtain ⟨hocc, h1, h2⟩ := ho
  subst h2
  have d1 : (under == 8) = false := by simpa using h1
  have d2 : (under != 8) = true := by simpa using h1
  clear h1
  rw [hocc] at hfl
  have HR := Lib.hid hfl
  clear hfl hocc
  generalize lo.length = nl at *
  generalize hi.length = nh at *
  generalize ks.length = nk at *
  have HNF : Hid (nameB f = true → ¬ f.size = 0) := Lib.hid (fun h => by simp only [nameB, Bool.and_eq_true, decide_eq_true_eq] at h; omega)
  generalize nameB f = nb at *
  go_enter Tryz.func41, Tryz.ntmps41
  go_wp2_with fail
  refine (HN.out _).mono ?_
  rintro e W1 ⟨rfl, hb⟩
  have HB := Lib.hid (((Below.refl _ w).alloc (Nat.le_refl _) _).trans (hb.mono (by simp)))
  obtain ⟨c0, c1, c2, c3, c4, c5, c6, c7, c8, c9⟩ := tenB ((Blk.new w _ _).below hb (by simp))
  clear hb
  cases nb
  all_goals
    go_wp2_with fail
    all_goals
      go_ret
      refine ⟨?_, HB.out⟩
      rw [HR.out]
      clear c0 c1 c2 c3 c4 c5 c6 c7 c8 c9 HR HN
      first | have hf0 := HNF.out rfl | have hf0 := HNF.out
      clear HNF
      simp_all [size_nil] <;> first | (intros; omega) | (rw [Bool.eq_iff_iff]; simp; done) | (intros; contradiction) | (intros; simp_all; done) | (intros; simp_all; omega) | (rw [Bool.eq_iff_iff]; simp; omega) | (rw [Bool.eq_iff_iff]; simp; intros; omega)
end
end Go.Proofs.YtinmiekbhoemjaaGreatDoor.Qry
end
