/- Contract: lecternref18.agg (written by gen_ragg.py). -/
import Derived.Test.YtinmiekbhoemjaaGreatDoorQckAgg2
import Derived.Test.YtinmiekbhoemjaaGreatDoorPack41
set_option linter.unusedVariables false
namespace Go.Proofs.YtinmiekbhoemjaaGreatDoor.Qck
open Go.RowKit Words Tree SchP QckP Kit Owned Sch Qry
section
variable (n : ByteArray) (k : Int) (f : ByteArray) (s : Int) (b : List Int) (t : Int) (ks : List AggT)
/-- What is wrong with a size; with bounds; with a step or kids. -/
def badS : Bool := decide ((k = 1 ∧ (s < 1 ∨ 1000 < s)) ∨ (¬ k = 1 ∧ ¬ s = 0))
def badB : Bool := decide ((k = 2 ∧ (b.length < 2 ∨ 1000 < b.length)) ∨ (¬ k = 2 ∧ 0 < b.length))
def badT : Bool := decide ((k = 3 ∧ t < 1) ∨ (¬ k = 3 ∧ ¬ t = 0) ∨ (3 < k ∧ 0 < ks.length))
theorem tail_all (hk : 1 ≤ k) : aggTail (.mk n k f s b t ks) = (!badS k s && !badB k b && upB b && !badT k t ks) := by
  have hnil : b.length = 0 → upB b = true := fun h => by
    rw [List.eq_nil_of_length_eq_zero h, upB]
    intro _ _ _ h; cases h
  unfold badS badB badT
  by_cases h1 : k = 1
  · subst h1
    rw [tail1, Bool.eq_iff_iff]
    generalize upB b = ub at *
    simp only [Bool.and_eq_true, Bool.not_eq_true', decide_eq_true_eq, decide_eq_false_iff_not, true_and, false_and, or_false, false_or, not_true_eq_false, not_false_eq_true, and_true, Int.reduceEq, Int.reduceLT]
    constructor
    · rintro ⟨⟨⟨a, c⟩, d⟩, e⟩
      exact ⟨⟨⟨by omega, by omega⟩, hnil d⟩, by omega⟩
    · rintro ⟨⟨⟨a, c⟩, d⟩, e⟩
      exact ⟨⟨⟨by omega, by omega⟩, by omega⟩, by omega⟩
  by_cases h2 : k = 2
  · subst h2
    rw [tail2, Bool.eq_iff_iff]
    generalize upB b = ub at *
    simp only [Bool.and_eq_true, Bool.not_eq_true', decide_eq_true_eq, decide_eq_false_iff_not, true_and, false_and, or_false, false_or, not_true_eq_false, not_false_eq_true, and_true, Int.reduceEq, Int.reduceLT]
    constructor
    · rintro ⟨⟨a, ⟨c, d⟩, e⟩, g⟩
      exact ⟨⟨⟨by omega, by omega⟩, e⟩, by omega⟩
    · rintro ⟨⟨⟨a, c⟩, d⟩, e⟩
      exact ⟨⟨by omega, ⟨by omega, by omega⟩, d⟩, by omega⟩
  by_cases h3 : k = 3
  · subst h3
    rw [tail3, Bool.eq_iff_iff]
    generalize upB b = ub at *
    simp only [Bool.and_eq_true, Bool.not_eq_true', decide_eq_true_eq, decide_eq_false_iff_not, true_and, false_and, or_false, false_or, not_true_eq_false, not_false_eq_true, and_true, Int.reduceEq, Int.reduceLT]
    constructor
    · rintro ⟨⟨a, d⟩, e⟩
      exact ⟨⟨⟨by omega, by omega⟩, hnil d⟩, by omega⟩
    · rintro ⟨⟨⟨a, c⟩, d⟩, e⟩
      exact ⟨⟨by omega, by omega⟩, by omega⟩
  · rw [tail4 n k f s b t ks ⟨h1, h2, h3, by omega⟩, Bool.eq_iff_iff]
    generalize upB b = ub at *
    simp only [Bool.and_eq_true, Bool.not_eq_true', decide_eq_true_eq, decide_eq_false_iff_not, true_and, false_and, or_false, false_or, not_true_eq_false, not_false_eq_true, and_true, Int.reduceEq, Int.reduceLT]
    constructor
    · rintro ⟨⟨⟨a, d⟩, e⟩, g⟩
      exact ⟨⟨⟨by omega, by omega⟩, hnil d⟩, by omega⟩
    · rintro ⟨⟨⟨a, c⟩, d⟩, e⟩
      exact ⟨⟨⟨by omega, by omega⟩, by omega⟩, by omega⟩
end
theorem names_step (gs : List AggT) (k j : Nat) (f : ByteArray) (hj : j < k) (hk : k < gs.length) : ((gs.take k).drop j).any (fun b => decide (name_ b = f)) = (decide (name_ (gs[j]'(by omega)) = f) || ((gs.take k).drop (j + 1)).any fun b => decide (name_ b = f)) := by
  have hl : j < (gs.take k).length := by rw [List.length_take]; omega
  rw [List.drop_eq_getElem_cons hl, List.any_cons, List.getElem_take]
theorem AKeys.name_cell {w : World} {B : Nat} {ad : Addr} {l : List AggT} (h : AKeys w B (some ad) l) (i : Nat) (hi : i < l.length) : w.cell? (ad.add (i * 7)) = some (.string (name_ l[i])) := by
  obtain ⟨ad', us, e, _, au, cu⟩ := h i hi
  obtain rfl : ad = ad' := by injection e
  generalize l[i] = g at *
  obtain ⟨n, k, f, s, b, t, ks⟩ := g
  obtain ⟨vb, vk, rfl, _, _⟩ := at_acells au
  exact cu.zero
/-- The second half of the head. -/
def badK (k : Int) (f : ByteArray) : Bool := decide (k < 1 ∨ 8 < k ∨ (k = 4 ∧ ¬ f.size = 0))
theorem head_all (nb d : Bool) (k : Int) (f : ByteArray) : (nb && !d && decide (1 ≤ k) && decide (k ≤ 8) && (decide (k ≠ 4) || decide (f.size = 0))) = (nb && !d && !badK k f) := by
  unfold badK
  cases nb <;> cases d <;> simp only [Bool.false_and, Bool.true_and, Bool.not_true, Bool.not_false]
  rw [Bool.eq_iff_iff]
  simp only [Bool.and_eq_true, Bool.or_eq_true, Bool.not_eq_true', decide_eq_true_eq, decide_eq_false_iff_not]
  omega
set_option maxRecDepth 100000 in
set_option maxHeartbeats 16000000 in
theorem refAgg_any (u : Value) (l : List FT) (gs : List AggT) (at_ : Nat) (A : Option Addr) (cap : Nat) (w : World) (hu : T.At bare w (fun g => g < w.heap.size) (fieldsT l) u) (hl : l.length * 72 ≤ 140737488351232) (hA : AKeys w w.heap.size A gs) (hgl : gs.length * 104 ≤ 140737488351232) (hok : ∀ a ∈ gs, AOk a) (hat : at_ < gs.length) :
    Calls Tryz.prog 43 #[.agg #[u], .slice A gs.length cap, .int .i64 at_] w (Sch.IntB (aggO l gs[at_] (gs.take at_)) w) := by
  have HFI := Lib.hid (fun (s : ByteArray) (W : World) (hW : Below w.heap.size w W) => refFind_any u l s W (At.below hu hW (fun g hg => Nat.lt_of_lt_of_le hg hW.size)) hl)
  obtain ⟨AF, capF, rfl, hcF, hmF, helF⟩ := at_row fcells_len hu
  have ELF := Lib.hid helF
  have HA := Lib.hid hA
  obtain ⟨r, hr⟩ : ∃ r, aggO l gs[at_] (gs.take at_) = r := ⟨_, rfl⟩
  have HR0 := Lib.hid hr
  rw [hr]
  obtain ⟨ad, us, rfl, hba, au, cu⟩ := hA at_ hat
  have hoka := hok _ (List.getElem_mem hat)
  have HST := Lib.hid (fun j (hj : j < at_) f => names_step gs at_ j f hj hat)
  generalize gs[at_] = g at *
  obtain ⟨n, k, f, s, b, t, ks⟩ := g
  cases hoka with
  | mk hn hk hf hs hbk ht hkl hka =>
  obtain ⟨vb, vk, rfl, hvb, hvk⟩ := at_acells au
  obtain ⟨XB, cb, rfl, hcb, hcbm, hrb⟩ := at_nums hvb
  obtain ⟨XK, ck, rfl, _⟩ := at_slice hvk
  obtain ⟨a0, a1, a2, a3, a4, a5, a6⟩ := seven cu
  have HR : Hid ((if aggHead (.mk n k f s b t ks) (gs.take at_) then orE (aggField l (.mk n k f s b t ks)) (if aggTail (.mk n k f s b t ks) then 0 else 184) else 184) = r) := Lib.hid (by rw [← HR0.out, aggO])
  have HN := Lib.hid (fun W => refName_any n W hn)
  have HRB := Lib.hid hrb
  obtain ⟨d, hd⟩ : ∃ d, ((gs.take at_).any fun x => decide (name_ x = n)) = d := ⟨_, rfl⟩
  have HH : Hid (aggHead (.mk n k f s b t ks) (gs.take at_) = (nameB n && !d && !badK k f)) := Lib.hid (by rw [← head_all, ← hd]; rfl)
  have HD0 : Hid (((gs.take at_).drop 0).any (fun x => decide (name_ x = n)) = d) := Lib.hid hd
  generalize nameB n = nb at *
  have hab : (ad.add (at_ * 7)).block < w.heap.size := by rw [block_of_add]; exact hba
  have hat2 : (at_ : Int) < (gs.length : Int) := by omega
  have hat0 : (0 : Int) ≤ (at_ : Int) := by omega
  have hbn : b.length ≤ 140737488351232 := by have := hbk.1; omega
  have hB0 : Below w.heap.size w ((w.alloc (Obj.cells #[.slice AF l.length capF] 24)).alloc (Obj.cells #[.string n, .int .i64 k, .string f, .int .i64 s, .slice XB b.length cb, .int .i64 t, .slice XK ks.length ck] 87)) := ((Below.refl _ w).alloc (Nat.le_refl _) _).alloc (by simp) _
  have HB0 := Lib.hid hB0
  have BS0 := Lib.hid ((Blk.new w 24 #[.slice AF l.length capF]).alloc (Obj.cells #[.string n, .int .i64 k, .string f, .int .i64 s, .slice XB b.length cb, .int .i64 t, .slice XK ks.length ck] 87))
  have bg0 := Blk.new (w.alloc (Obj.cells #[.slice AF l.length capF] 24)) 87 #[.string n, .int .i64 k, .string f, .int .i64 s, .slice XB b.length cb, .int .i64 t, .slice XK ks.length ck]
  rw [show (w.alloc (Obj.cells #[.slice AF l.length capF] 24)).heap.size = w.heap.size + 1 by simp] at bg0
  have BG0 := Lib.hid bg0
  have hz0 : ((w.alloc (Obj.cells #[.slice AF l.length capF] 24)).alloc (Obj.cells #[.string n, .int .i64 k, .string f, .int .i64 s, .slice XB b.length cb, .int .i64 t, .slice XK ks.length ck] 87)).heap.size = w.heap.size + 2 := by simp
  clear hr hd hA hu helF au cu hvb hvk hrb hka hn hf hs ht hk hB0 bg0 hok hcF hmF HR0
  go_enter Tryz.func43, Tryz.ntmps43
  go_upto_region 2 with fail
  generalize (w.alloc (Obj.cells #[.slice AF l.length capF] 24)).alloc (Obj.cells #[.string n, .int .i64 k, .string f, .int .i64 s, .slice XB b.length cb, .int .i64 t, .slice XK ks.length ck] 87) = W0 at *
  generalize (Value.agg #[.slice AF l.length capF]) = va
  generalize (Value.agg #[.string n, .int .i64 k, .string f, .int .i64 s, .slice XB b.length cb, .int .i64 t, .slice XK ks.length ck]) = vg
  clear a0 a1 a2 a3 a4 a5 a6
  have c0 : W0.cell? ⟨w.heap.size + 1, 0, none⟩ = some (.string n) := BG0.out.cell 0
  go_wp2_with fail
  refine (HN.out _).mono ?_
  rintro e w2 ⟨rfl, hb⟩
  have HB := Lib.hid (HB0.out.trans (hb.mono (by omega)))
  have BS := Lib.hid (BS0.out.below hb (by omega))
  have BG := Lib.hid (BG0.out.below hb (by omega))
  clear hb c0 HB0 BS0 BG0 HN hz0
  cases nb with
  | false =>
    have HX : Hid (r = 184) := Lib.hid (by rw [← HR.out, HH.out]; rfl)
    go_wp2_with fail
    go_ret
    rw [HX.out]
    exact ⟨rfl, HB.out⟩
  | true =>
  have hgz : w.heap.size + 2 ≤ w2.heap.size := by have := BG.out.lt; have := BS.out.lt; omega
  have HBw : Hid (∀ W, Below (w.heap.size + 2) w2 W → Below w.heap.size w W) := Lib.hid (fun W hW => HB.out.trans (hW.mono (by omega)))
  have HBS : Hid (∀ W, Below (w.heap.size + 2) w2 W → Blk W w.heap.size 24 #[.slice AF l.length capF]) := Lib.hid (fun W hW => BS.out.below hW (by omega))
  have HBG : Hid (∀ W, Below (w.heap.size + 2) w2 W → Blk W (w.heap.size + 1) 87 #[.string n, .int .i64 k, .string f, .int .i64 s, .slice XB b.length cb, .int .i64 t, .slice XK ks.length ck]) := Lib.hid (fun W hW => BG.out.below hW (by omega))
  clear BS BG
  go_wp2_with fail
  go_loopw [8] (fun i wr => ∃ j : Nat, j ≤ at_ ∧ i = .int .i64 j ∧ Hid (((gs.take at_).drop j).any (fun x => decide (name_ x = n)) = d) ∧ Hid (Below (w.heap.size + 2) w2 wr)) (fun i _ => at_ - (intOf i).toNat)
  case atStart => exact ⟨0, by omega, rfl, HD0, Lib.hid (Below.refl _ _)⟩
  case round =>
    obtain ⟨j, hj, rfl, HJ, HW⟩ := hrel
    by_cases hjl : j < at_
    · have hjl2 : (j : Int) < (gs.length : Int) := by omega
      have hjl3 : (j : Int) < (at_ : Int) := by omega
      have hj0 : (0 : Int) ≤ (j : Int) := by omega
      have b0 := ((HBw.out _ HW.out).cell (p := ad.add (j * 7)) (by rw [block_of_add]; exact hba)).trans (HA.out.name_cell j (by omega))
      have g0 : wr.cell? ⟨w.heap.size + 1, 0, none⟩ = some (.string n) := (HBG.out _ HW.out).cell 0
      have HJS := Lib.hid ((HST.out j hjl n).symm.trans HJ.out)
      generalize name_ (gs[j]'(by omega)) = g at *
      go_upto_region 7 with fail
      rcases str_cases g n with ⟨h1, h2⟩ | ⟨h1, h2⟩
      · have HY : Hid (d = true) := Lib.hid (by rw [← HJS.out, decide_eq_true h1]; rfl)
        have HX : Hid (r = 184) := Lib.hid (by rw [← HR.out, HH.out, HY.out]; rfl)
        clear h1
        go_quiet (fail)
        go_wp2_with fail
        go_ret
        rw [HX.out]
        exact ⟨rfl, HBw.out _ (below_drewN HW.out _)⟩
      · have HJ2 : Hid (((gs.take at_).drop (j + 1)).any (fun x => decide (name_ x = n)) = d) := Lib.hid (by rw [← HJS.out, decide_eq_false h1]; rfl)
        clear h1
        go_quiet (fail)
        go_wp2_with fail
        go_roundw
        case rel => exact ⟨j + 1, by omega, by go_num, HJ2, Lib.hid (below_drewN HW.out _)⟩
        case measure => simp [intOf]; omega
    · obtain rfl : j = at_ := by omega
      have HD : Hid (d = false) := Lib.hid (by rw [← HJ.out, List.drop_eq_nil_of_le (by rw [List.length_take]; omega)]; rfl)
      have HR1 : Hid ((if !badK k f then orE (aggField l (.mk n k f s b t ks)) (if aggTail (.mk n k f s b t ks) then 0 else 184) else 184) = r) := Lib.hid (by rw [← HR.out, HH.out, HD.out]; rfl)
      have c1 : wr.cell? ⟨w.heap.size + 1, 1, none⟩ = some (.int .i64 k) := (HBG.out _ HW.out).cell 1
      have c2 : wr.cell? ⟨w.heap.size + 1, 2, none⟩ = some (.string f) := (HBG.out _ HW.out).cell 2
      clear HR HH HD HJ HST HA HD0
      go_upto_region 9 with fail
      obtain ⟨bk, hbk2⟩ : ∃ bk, badK k f = bk := ⟨_, rfl⟩
      have HBK := Lib.hid hbk2
      rw [hbk2] at HR1
      clear hbk2
      go_cut [51] from 34 to 51 (fun c wx => c = .bool bk ∧ wr = wx)
      case first =>
        rcases (show k < 1 ∨ 8 < k ∨ k = 4 ∨ (1 ≤ k ∧ k ≤ 8 ∧ ¬ k = 4) by omega) with h1 | h1 | rfl | ⟨h1, h8, h4⟩
        · have d1 : decide (k < (1 : Int)) = true := decide_eq_true h1
          obtain rfl : bk = true := by rw [← HBK.out]; exact decide_eq_true (.inl h1)
          go_wp2_with fail
          go_meet
          exact ⟨rfl, rfl⟩
        · have d1 : decide (k < (1 : Int)) = false := decide_eq_false (by omega)
          have d2 : decide ((8 : Int) < k) = true := decide_eq_true h1
          obtain rfl : bk = true := by rw [← HBK.out]; exact decide_eq_true (.inr (.inl h1))
          go_wp2_with fail
          go_meet
          exact ⟨rfl, rfl⟩
        · rcases empty_cases f with rfl | ⟨hne, hn2, hn3, hn4, hn5⟩
          · obtain rfl : bk = false := by rw [← HBK.out]; rfl
            go_wp2_with fail
            go_meet
            exact ⟨rfl, rfl⟩
          · obtain rfl : bk = true := by rw [← HBK.out]; exact decide_eq_true (.inr (.inr ⟨rfl, hn5⟩))
            clear hn5
            go_wp2_with fail
            go_meet
            exact ⟨rfl, rfl⟩
        · have d1 : decide (k < (1 : Int)) = false := decide_eq_false (by omega)
          have d2 : decide ((8 : Int) < k) = false := decide_eq_false (by omega)
          have d4 : (k == (4 : Int)) = false := by rw [beq_eq_false_iff_ne]; exact h4
          obtain rfl : bk = false := by rw [← HBK.out]; exact decide_eq_false (by omega)
          go_wp2_with fail
          go_meet
          exact ⟨rfl, rfl⟩
      case rest =>
      obtain ⟨rfl, rfl⟩ := hcut
      cases bk with
      | true =>
        have HX : Hid (r = 184) := Lib.hid (HR1.out.symm)
        go_wp2_with fail
        go_ret
        rw [HX.out]
        exact ⟨rfl, HBw.out _ HW.out⟩
      | false =>
      have hk1 : 1 ≤ k := by
        have := of_decide_eq_false HBK.out
        omega
      have HR2 : Hid (orE (aggField l (.mk n k f s b t ks)) (if aggTail (.mk n k f s b t ks) then 0 else 184) = r) := Lib.hid HR1.out
      clear HR1 HBK
      obtain ⟨T, hT⟩ : ∃ T, (if aggTail (.mk n k f s b t ks) then (0 : Int) else 184) = T := ⟨_, rfl⟩
      have HT := Lib.hid hT
      rw [hT] at HR2
      clear hT
      go_upto_if 54 with fail
      go_cut [9, 10, 11] from 52 to 106 (fun _ _ _ wx => Hid (Below (w.heap.size + 2) w2 wx) ∧ Hid (T = r))
      case first =>
        by_cases h4 : k = 4
        · subst h4
          have HX : Hid (T = r) := Lib.hid (by rw [← HR2.out, aggField_eq, if_pos rfl]; rfl)
          go_wp2_with fail
          go_meet
          exact ⟨HW, HX⟩
        have n4 : (k != (4 : Int)) = true := by rw [bne_iff_ne]; exact h4
        have HAF : Hid (aggField l (.mk n k f s b t ks) = if (fieldG l f).2 = 0 then (if (if k = 1 then decide ((fieldG l f).1.kind = 2) else if k = 8 then numF (fieldG l f).1 || decide ((fieldG l f).1.kind = 2) else numF (fieldG l f).1) then 0 else 82) else (fieldG l f).2) := Lib.hid (by rw [aggField_eq, if_neg h4])
        have s0 : wr.cell? ⟨w.heap.size, 0, none⟩ = some (.slice AF l.length capF) := (HBS.out _ HW.out).cell 0
        go_wp2_with fail
        refine (HFI.out f _ (HBw.out _ HW.out)).mono ?_
        rintro e w4 ⟨rfl, hb⟩
        have HB4 := Lib.hid (HW.out.trans (hb.mono (by have := HW.out.size; omega)))
        clear hb c1 c2 s0
        rcases find_cases l f with ⟨hz, hG⟩ | ⟨i, hil, hz, hG⟩
        · have HX : Hid (r = 81) := Lib.hid (by rw [← HR2.out, HAF.out, hG]; rfl)
          rw [hz]
          clear hz hG
          go_wp2_with fail
          go_ret
          rw [HX.out]
          exact ⟨rfl, HBw.out _ HB4.out⟩
        · obtain ⟨adF, uF, rfl, hbf, af, lf, cf⟩ := ELF.out i hil
          replace cf := cf.keep (w' := w4) (fun p hp => (HBw.out _ HB4.out).cell (by rw [hp, block_of_add]; exact hbf))
          have hi2 : (i : Int) < (l.length : Int) := by omega
          have hi0 : (0 : Int) ≤ (i : Int) := by omega
          have HME : Hid (orE (if (if k = 1 then decide (l[i].kind = 2) else if k = 8 then (decide (l[i].kind = 3) || decide (l[i].kind = 4)) || decide (l[i].kind = 2) else (decide (l[i].kind = 3) || decide (l[i].kind = 4))) then 0 else 82) T = r) := Lib.hid (by rw [← HR2.out, HAF.out, hG, if_pos rfl]; rfl)
          have s0 : w4.cell? ⟨w.heap.size, 0, none⟩ = some (.slice (some adF) l.length capF) := (HBS.out _ HB4.out).cell 0
          have c1 : w4.cell? ⟨w.heap.size + 1, 1, none⟩ = some (.int .i64 k) := (HBG.out _ HB4.out).cell 1
          rw [hz]
          generalize l[i] = fe at *
          obtain ⟨f0, f1, f2, f3, f4, f5, f6⟩ := fe
          obtain ⟨vc, rfl, gc⟩ := at_fcells af
          obtain ⟨x0, x1, x2, x3, x4, x5, x6⟩ := seven cf
          dsimp only at HME
          clear hz hG cf af lf gc HAF HR2 x0 x2 x3 x4 x5 x6 HFI ELF
          rcases (show f1 = 2 ∨ f1 = 3 ∨ f1 = 4 ∨ (¬ f1 = 2 ∧ ¬ f1 = 3 ∧ ¬ f1 = 4) by omega) with rfl | rfl | rfl | ⟨g2, g3, g4⟩
          ·
            rcases (show k = 1 ∨ k = 8 ∨ (¬ k = 1 ∧ ¬ k = 8) by omega) with rfl | rfl | ⟨h1, h8⟩
            ·
              have HX : Hid (T = r) := Lib.hid (by rw [← HME.out]; simp [orE])
              clear HME
              go_wp2_with fail
              go_meet
              exact ⟨HB4, HX⟩
            ·
              have HX : Hid (T = r) := Lib.hid (by rw [← HME.out]; simp [orE])
              clear HME
              go_wp2_with fail
              go_meet
              exact ⟨HB4, HX⟩
            ·
              have k1 : (k == (1 : Int)) = false := by rw [beq_eq_false_iff_ne]; exact h1
              have l1 : (k != (1 : Int)) = true := by rw [bne_iff_ne]; exact h1
              have k8 : (k == (8 : Int)) = false := by rw [beq_eq_false_iff_ne]; exact h8
              have l8 : (k != (8 : Int)) = true := by rw [bne_iff_ne]; exact h8
              have HX : Hid (r = 82) := Lib.hid (by rw [← HME.out]; simp [orE, h1, h8])
              clear HME h1 h8
              go_wp2_with fail
              go_ret
              rw [HX.out]
              exact ⟨rfl, HBw.out _ HB4.out⟩
          ·
            rcases (show k = 1 ∨ k = 8 ∨ (¬ k = 1 ∧ ¬ k = 8) by omega) with rfl | rfl | ⟨h1, h8⟩
            ·
              have HX : Hid (r = 82) := Lib.hid (by rw [← HME.out]; simp [orE])
              clear HME
              go_wp2_with fail
              go_ret
              rw [HX.out]
              exact ⟨rfl, HBw.out _ HB4.out⟩
            ·
              have HX : Hid (T = r) := Lib.hid (by rw [← HME.out]; simp [orE])
              clear HME
              go_wp2_with fail
              go_meet
              exact ⟨HB4, HX⟩
            ·
              have k1 : (k == (1 : Int)) = false := by rw [beq_eq_false_iff_ne]; exact h1
              have l1 : (k != (1 : Int)) = true := by rw [bne_iff_ne]; exact h1
              have k8 : (k == (8 : Int)) = false := by rw [beq_eq_false_iff_ne]; exact h8
              have l8 : (k != (8 : Int)) = true := by rw [bne_iff_ne]; exact h8
              have HX : Hid (T = r) := Lib.hid (by rw [← HME.out]; simp [orE, h1, h8])
              clear HME h1 h8
              go_wp2_with fail
              go_meet
              exact ⟨HB4, HX⟩
          ·
            rcases (show k = 1 ∨ k = 8 ∨ (¬ k = 1 ∧ ¬ k = 8) by omega) with rfl | rfl | ⟨h1, h8⟩
            ·
              have HX : Hid (r = 82) := Lib.hid (by rw [← HME.out]; simp [orE])
              clear HME
              go_wp2_with fail
              go_ret
              rw [HX.out]
              exact ⟨rfl, HBw.out _ HB4.out⟩
            ·
              have HX : Hid (T = r) := Lib.hid (by rw [← HME.out]; simp [orE])
              clear HME
              go_wp2_with fail
              go_meet
              exact ⟨HB4, HX⟩
            ·
              have k1 : (k == (1 : Int)) = false := by rw [beq_eq_false_iff_ne]; exact h1
              have l1 : (k != (1 : Int)) = true := by rw [bne_iff_ne]; exact h1
              have k8 : (k == (8 : Int)) = false := by rw [beq_eq_false_iff_ne]; exact h8
              have l8 : (k != (8 : Int)) = true := by rw [bne_iff_ne]; exact h8
              have HX : Hid (T = r) := Lib.hid (by rw [← HME.out]; simp [orE, h1, h8])
              clear HME h1 h8
              go_wp2_with fail
              go_meet
              exact ⟨HB4, HX⟩
          ·
            have m3 : (f1 == (3 : Int)) = false := by rw [beq_eq_false_iff_ne]; exact g3
            have m4 : (f1 == (4 : Int)) = false := by rw [beq_eq_false_iff_ne]; exact g4
            have m2 : (f1 != (2 : Int)) = true := by rw [bne_iff_ne]; exact g2
            rcases (show k = 1 ∨ k = 8 ∨ (¬ k = 1 ∧ ¬ k = 8) by omega) with rfl | rfl | ⟨h1, h8⟩
            ·
              have HX : Hid (r = 82) := Lib.hid (by rw [← HME.out]; simp [orE, g2, g3, g4])
              clear HME g2 g3 g4
              go_wp2_with fail
              go_ret
              rw [HX.out]
              exact ⟨rfl, HBw.out _ HB4.out⟩
            ·
              have HX : Hid (r = 82) := Lib.hid (by rw [← HME.out]; simp [orE, g2, g3, g4])
              clear HME g2 g3 g4
              go_wp2_with fail
              go_ret
              rw [HX.out]
              exact ⟨rfl, HBw.out _ HB4.out⟩
            ·
              have k1 : (k == (1 : Int)) = false := by rw [beq_eq_false_iff_ne]; exact h1
              have l1 : (k != (1 : Int)) = true := by rw [bne_iff_ne]; exact h1
              have k8 : (k == (8 : Int)) = false := by rw [beq_eq_false_iff_ne]; exact h8
              have l8 : (k != (8 : Int)) = true := by rw [bne_iff_ne]; exact h8
              have HX : Hid (r = 82) := Lib.hid (by rw [← HME.out]; simp [orE, g2, g3, g4, h1, h8])
              clear HME g2 g3 g4 h1 h8
              go_wp2_with fail
              go_ret
              rw [HX.out]
              exact ⟨rfl, HBw.out _ HB4.out⟩
      case rest =>
      obtain ⟨HWc, HTR⟩ := hcut
      have HT3 : Hid ((if (!badS k s && !badB k b && upB b && !badT k t ks) then (0 : Int) else 184) = r) := Lib.hid (by rw [← tail_all n k f s b t ks hk1, HT.out, HTR.out])
      clear HT HTR HR2 c1 c2 HFI ELF
      have c1 : wc.cell? ⟨w.heap.size + 1, 1, none⟩ = some (.int .i64 k) := (HBG.out _ HWc.out).cell 1
      have c3 : wc.cell? ⟨w.heap.size + 1, 3, none⟩ = some (.int .i64 s) := (HBG.out _ HWc.out).cell 3
      have c4 : wc.cell? ⟨w.heap.size + 1, 4, none⟩ = some (.slice XB b.length cb) := (HBG.out _ HWc.out).cell 4
      go_upto_region 19 with fail
      obtain ⟨bs, hbs⟩ : ∃ bs, badS k s = bs := ⟨_, rfl⟩
      have HBD := Lib.hid hbs
      rw [hbs] at HT3
      clear hbs
      go_cut [129] from 107 to 129 (fun c wx => c = .bool bs ∧ wc = wx)
      case first =>
        by_cases h1 : k = 1
        · subst h1
          rcases (show s < 1 ∨ 1000 < s ∨ (1 ≤ s ∧ s ≤ 1000) by omega) with h | h | ⟨h, h9⟩
          ·
            have d1 : decide (s < (1 : Int)) = true := decide_eq_true h
            obtain rfl : bs = true := by rw [← HBD.out]; exact decide_eq_true (.inl ⟨rfl, .inl h⟩)
            go_wp2_with fail
            go_meet
            exact ⟨rfl, rfl⟩
          ·
            have d1 : decide (s < (1 : Int)) = false := decide_eq_false (by omega)
            have d2 : decide ((1000 : Int) < s) = true := decide_eq_true h
            obtain rfl : bs = true := by rw [← HBD.out]; exact decide_eq_true (.inl ⟨rfl, .inr h⟩)
            go_wp2_with fail
            go_meet
            exact ⟨rfl, rfl⟩
          ·
            have d1 : decide (s < (1 : Int)) = false := decide_eq_false (by omega)
            have d2 : decide ((1000 : Int) < s) = false := decide_eq_false (by omega)
            obtain rfl : bs = false := by rw [← HBD.out]; exact decide_eq_false (by omega)
            go_wp2_with fail
            go_meet
            exact ⟨rfl, rfl⟩
        · have k1 : (k == (1 : Int)) = false := by rw [beq_eq_false_iff_ne]; exact h1
          have l1 : (k != (1 : Int)) = true := by rw [bne_iff_ne]; exact h1
          by_cases h : s = 0
          · subst h
            obtain rfl : bs = false := by rw [← HBD.out]; exact decide_eq_false (by omega)
            clear h1
            go_wp2_with fail
            go_meet
            exact ⟨rfl, rfl⟩
          ·
            have d1 : (s != (0 : Int)) = true := by rw [bne_iff_ne]; exact h
            obtain rfl : bs = true := by rw [← HBD.out]; exact decide_eq_true (.inr ⟨h1, h⟩)
            clear h h1
            go_wp2_with fail
            go_meet
            exact ⟨rfl, rfl⟩
      case rest =>
      obtain ⟨rfl, rfl⟩ := hcut
      cases bs with
      | true =>
        have HX : Hid (r = 184) := Lib.hid (HT3.out.symm)
        go_wp2_with fail
        go_ret
        rw [HX.out]
        exact ⟨rfl, HBw.out _ HWc.out⟩
      | false =>
      clear HBD
      go_upto_region 21 with fail
      obtain ⟨bb, hbb⟩ : ∃ bb, badB k b = bb := ⟨_, rfl⟩
      have HBD := Lib.hid hbb
      rw [hbb] at HT3
      clear hbb
      go_cut [155] from 130 to 155 (fun c wx => c = .bool bb ∧ wc = wx)
      case first =>
        by_cases h1 : k = 2
        · subst h1
          rcases (show b.length < 2 ∨ 1000 < b.length ∨ (2 ≤ b.length ∧ b.length ≤ 1000) by omega) with h | h | ⟨h, h9⟩
          ·
            have d1 : decide ((b.length : Int) < (2 : Int)) = true := decide_eq_true (by omega)
            have e1 : decide (b.length < 2) = true := decide_eq_true (by omega)
            obtain rfl : bb = true := by rw [← HBD.out]; exact decide_eq_true (.inl ⟨rfl, .inl h⟩)
            clear h
            go_wp2_with fail
            go_meet
            exact ⟨rfl, rfl⟩
          ·
            have d1 : decide ((b.length : Int) < (2 : Int)) = false := decide_eq_false (by omega)
            have e1 : decide (b.length < 2) = false := decide_eq_false (by omega)
            have d2 : decide ((1000 : Int) < (b.length : Int)) = true := decide_eq_true (by omega)
            have e2 : decide (1000 < b.length) = true := decide_eq_true (by omega)
            obtain rfl : bb = true := by rw [← HBD.out]; exact decide_eq_true (.inl ⟨rfl, .inr h⟩)
            clear h
            go_wp2_with fail
            go_meet
            exact ⟨rfl, rfl⟩
          ·
            have d1 : decide ((b.length : Int) < (2 : Int)) = false := decide_eq_false (by omega)
            have e1 : decide (b.length < 2) = false := decide_eq_false (by omega)
            have d2 : decide ((1000 : Int) < (b.length : Int)) = false := decide_eq_false (by omega)
            have e2 : decide (1000 < b.length) = false := decide_eq_false (by omega)
            obtain rfl : bb = false := by rw [← HBD.out]; exact decide_eq_false (by omega)
            clear h h9
            go_wp2_with fail
            go_meet
            exact ⟨rfl, rfl⟩
        · have k1 : (k == (2 : Int)) = false := by rw [beq_eq_false_iff_ne]; exact h1
          have l1 : (k != (2 : Int)) = true := by rw [bne_iff_ne]; exact h1
          by_cases h : 0 < b.length
          ·
            have d1 : decide ((0 : Int) < (b.length : Int)) = true := decide_eq_true (by omega)
            have e1 : decide (0 < b.length) = true := decide_eq_true (by omega)
            obtain rfl : bb = true := by rw [← HBD.out]; exact decide_eq_true (.inr ⟨h1, h⟩)
            clear h h1
            go_wp2_with fail
            go_meet
            exact ⟨rfl, rfl⟩
          ·
            have d1 : decide ((0 : Int) < (b.length : Int)) = false := decide_eq_false (by omega)
            have e1 : decide (0 < b.length) = false := decide_eq_false (by omega)
            obtain rfl : bb = false := by rw [← HBD.out]; exact decide_eq_false (by omega)
            clear h h1
            go_wp2_with fail
            go_meet
            exact ⟨rfl, rfl⟩
      case rest =>
      obtain ⟨rfl, rfl⟩ := hcut
      cases bb with
      | true =>
        have HX : Hid (r = 184) := Lib.hid (HT3.out.symm)
        go_wp2_with fail
        go_ret
        rw [HX.out]
        exact ⟨rfl, HBw.out _ HWc.out⟩
      | false =>
      clear HBD c1 c3 c4
      obtain ⟨ub, hub⟩ : ∃ ub, upB b = ub := ⟨_, rfl⟩
      have HU0 : Hid (upB (b.drop 0) = ub) := Lib.hid hub
      have HT4 : Hid ((if (ub && !badT k t ks) then (0 : Int) else 184) = r) := Lib.hid (by rw [← HT3.out, hub]; rfl)
      have HRX : Hid (∀ W, Below (w.heap.size + 2) w2 W → Reads W w.heap.size 1 XB b.length (b.map (Value.int .i64))) := Lib.hid (fun W hW => HRB.out.below (HBw.out _ hW))
      clear hub HT3
      go_wp2_with fail
      go_loopw [12] (fun i wr => ∃ j : Nat, i = .int .i64 ((j : Int) + 1) ∧ (j = 0 ∨ j + 1 ≤ b.length) ∧ Hid (upB (b.drop j) = ub) ∧ Hid (Below (w.heap.size + 2) w2 wr)) (fun i _ => b.length + 1 - (intOf i).toNat)
      case atStart => exact ⟨0, rfl, .inl rfl, HU0, HWc⟩
      case round =>
        clear HWc HU0
        obtain ⟨j, rfl, hj, HJ, HW3⟩ := hrel
        have c4 : wr.cell? ⟨w.heap.size + 1, 4, none⟩ = some (.slice XB b.length cb) := (HBG.out _ HW3.out).cell 4
        by_cases hlt : j + 1 < b.length
        · have hlt2 : (j : Int) + 1 < (b.length : Int) := by omega
          have hj1 : (j : Int) < (b.length : Int) := by omega
          have hj0 : (0 : Int) ≤ (j : Int) := by omega
          have hj2 : (0 : Int) ≤ (j : Int) + 1 := by omega
          have ht1 : ((j : Int) + 1).toNat = j + 1 := by omega
          have hw2 : IntKind.i64.wrap (j : Int) = (j : Int) := IntWalk.i64_in _ (by omega)
          have hw1 : IntKind.i64.wrap ((j : Int) + 1 - 1) = (j : Int) := by rw [show (j : Int) + 1 - 1 = (j : Int) by omega]; exact IntWalk.i64_in _ (by omega)
          have HSTP := Lib.hid (show upB (b.drop j) = (decide (b[j] < b[j + 1]) && upB (b.drop (j + 1))) from upB_step (k := j + 1) (by omega) hlt)
          obtain ⟨ad2, rfl, hba2, hcs⟩ := (HRX.out _ HW3.out).2 (by omega)
          have a0 : wr.cell? (ad2.add j) = some (.int .i64 b[j]) := hcs j _ (by simp)
          have a1 : wr.cell? ⟨ad2.block, ad2.off + (j + 1), none⟩ = some (.int .i64 b[j + 1]) := by
            have := hcs (j + 1) (.int .i64 b[j + 1]) (by simp [hlt])
            unfold Addr.add at this
            rwa [if_neg (by omega)] at this
          clear hcs
          generalize b[j] = x at *
          generalize b[j + 1] = y at *
          go_upto_region 26 with fail
          by_cases hxy : x < y
          · have d1 : decide (y ≤ x) = false := decide_eq_false (by omega)
            have HJ2 : Hid (upB (b.drop (j + 1)) = ub) := Lib.hid (by rw [← HJ.out, HSTP.out, decide_eq_true hxy, Bool.true_and])
            clear hxy
            go_quiet (fail)
            go_wp2_with fail
            go_roundw
            case rel => exact ⟨j + 1, by go_num, .inr (by omega), HJ2, Lib.hid (below_drewN HW3.out _)⟩
            case measure => simp [intOf]; omega
          · have d1 : decide (y ≤ x) = true := decide_eq_true (by omega)
            have HU : Hid (ub = false) := Lib.hid (by rw [← HJ.out, HSTP.out, decide_eq_false hxy, Bool.false_and])
            have HX : Hid (r = 184) := Lib.hid (by rw [← HT4.out, HU.out]; rfl)
            clear hxy
            go_quiet (fail)
            go_wp2_with fail
            go_ret
            rw [HX.out]
            exact ⟨rfl, HBw.out _ (below_drewN HW3.out _)⟩
        · have HU : Hid (ub = true) := Lib.hid (by rw [← HJ.out, show j = j + 1 - 1 by omega, upB_end (by omega) (by omega)])
          have HT5 : Hid ((if !badT k t ks then (0 : Int) else 184) = r) := Lib.hid (by rw [← HT4.out, HU.out, Bool.true_and])
          have hge : ¬ (j : Int) + 1 < (b.length : Int) := by omega
          have c1 : wr.cell? ⟨w.heap.size + 1, 1, none⟩ = some (.int .i64 k) := (HBG.out _ HW3.out).cell 1
          have c5 : wr.cell? ⟨w.heap.size + 1, 5, none⟩ = some (.int .i64 t) := (HBG.out _ HW3.out).cell 5
          have c6 : wr.cell? ⟨w.heap.size + 1, 6, none⟩ = some (.slice XK ks.length ck) := (HBG.out _ HW3.out).cell 6
          clear HT4 HU HJ
          go_upto_region 28 with fail
          obtain ⟨bt, hbt⟩ : ∃ bt, badT k t ks = bt := ⟨_, rfl⟩
          have HBD := Lib.hid hbt
          rw [hbt] at HT5
          clear hbt c4 hge
          go_cut [203] from 175 to 203 (fun c wx => c = .bool bt ∧ wr = wx)
          case first =>
            by_cases h1 : k = 3
            · subst h1
              by_cases h : t < 1
              ·
                have d1 : decide (t < (1 : Int)) = true := decide_eq_true h
                obtain rfl : bt = true := by rw [← HBD.out]; exact decide_eq_true (.inl ⟨rfl, h⟩)
                go_wp2_with fail
                go_meet
                exact ⟨rfl, rfl⟩
              ·
                have d1 : decide (t < (1 : Int)) = false := decide_eq_false (by omega)
                obtain rfl : bt = false := by rw [← HBD.out]; exact decide_eq_false (by omega)
                go_wp2_with fail
                go_meet
                exact ⟨rfl, rfl⟩
            · have k1 : (k == (3 : Int)) = false := by rw [beq_eq_false_iff_ne]; exact h1
              have l1 : (k != (3 : Int)) = true := by rw [bne_iff_ne]; exact h1
              by_cases h : t = 0
              · subst h
                by_cases h3 : 3 < k
                · have d3 : decide ((3 : Int) < k) = true := decide_eq_true h3
                  by_cases h0 : 0 < ks.length
                  ·
                    have d1 : decide ((0 : Int) < (ks.length : Int)) = true := decide_eq_true (by omega)
                    have e1 : decide (0 < ks.length) = true := decide_eq_true (by omega)
                    obtain rfl : bt = true := by rw [← HBD.out]; exact decide_eq_true (.inr (.inr ⟨h3, h0⟩))
                    clear h0 h1
                    go_wp2_with fail
                    go_meet
                    exact ⟨rfl, rfl⟩
                  ·
                    have d1 : decide ((0 : Int) < (ks.length : Int)) = false := decide_eq_false (by omega)
                    have e1 : decide (0 < ks.length) = false := decide_eq_false (by omega)
                    obtain rfl : bt = false := by rw [← HBD.out]; exact decide_eq_false (by omega)
                    clear h0 h1
                    go_wp2_with fail
                    go_meet
                    exact ⟨rfl, rfl⟩
                ·
                  have d3 : decide ((3 : Int) < k) = false := decide_eq_false h3
                  obtain rfl : bt = false := by rw [← HBD.out]; exact decide_eq_false (by omega)
                  clear h1
                  go_wp2_with fail
                  go_meet
                  exact ⟨rfl, rfl⟩
              ·
                have d1 : (t != (0 : Int)) = true := by rw [bne_iff_ne]; exact h
                obtain rfl : bt = true := by rw [← HBD.out]; exact decide_eq_true (.inr (.inl ⟨h1, h⟩))
                clear h h1
                go_wp2_with fail
                go_meet
                exact ⟨rfl, rfl⟩
          case rest =>
          obtain ⟨rfl, rfl⟩ := hcut
          cases bt with
          | true =>
            have HX : Hid (r = 184) := Lib.hid (HT5.out.symm)
            go_wp2_with fail
            go_ret
            rw [HX.out]
            exact ⟨rfl, HBw.out _ HW3.out⟩
          | false =>
            have HX : Hid (r = 0) := Lib.hid (HT5.out.symm)
            go_wp2_with fail
            go_ret
            rw [HX.out]
            exact ⟨rfl, HBw.out _ HW3.out⟩
end Go.Proofs.YtinmiekbhoemjaaGreatDoor.Qck
