/- Contract: asker.agg. -/
import Derived.Test.YtinmiekbhoemjaaGreatDoorPack15
import Derived.Deep.CutRange
import Derived.Deep.DeepCutAuto
import Derived.BigQuiet
set_option linter.unusedVariables false
namespace Go.Proofs.YtinmiekbhoemjaaGreatDoor.Qck
open Go.RowKit Words Tree SchP QckP Kit Owned Sch Qry
theorem aggField_eq (l : List FT) (n : ByteArray) (k : Int) (f : ByteArray) (s : Int) (b : List Int) (t : Int) (ks : List AggT) :
    aggField l (.mk n k f s b t ks) = if k = 4 then 0 else if (fieldG l f).2 = 0 then (if (if k = 1 then decide ((fieldG l f).1.kind = 2) else if k = 8 then numF (fieldG l f).1 || decide ((fieldG l f).1.kind = 2) else numF (fieldG l f).1) then 0 else 82) else (fieldG l f).2 := by
  unfold aggField fieldG
  dsimp only [kind_, field_]
  cases fieldF l f <;> rfl
theorem upB_step {l : List Int} {k : Nat} (h1 : 1 ≤ k) (h : k < l.length) : upB (l.drop (k - 1)) = (decide (l[k - 1] < l[k]) && upB (l.drop k)) := by
  rw [List.drop_eq_getElem_cons (show k - 1 < l.length by omega), show k - 1 + 1 = k by omega, List.drop_eq_getElem_cons h, upB]
theorem upB_end {l : List Int} {k : Nat} (h1 : 1 ≤ k) (h : l.length ≤ k) : upB (l.drop (k - 1)) = true := by
  rcases Nat.lt_or_ge (k - 1) l.length with h2 | h2
  · rw [List.drop_eq_getElem_cons h2, List.drop_eq_nil_of_le (by omega), upB]
    intro _ _ _ h; cases h
  · rw [List.drop_eq_nil_of_le h2, upB]
    intro _ _ _ h; cases h
section
variable (n : ByteArray) (k : Int) (f : ByteArray) (s : Int) (b : List Int) (t : Int) (ks : List AggT)
theorem tail_def : aggTail (.mk n k f s b t ks) = ((if k = 1 then decide (1 ≤ s) && decide (s ≤ 1000) else decide (s = 0)) && (if k = 2 then decide (2 ≤ b.length) && decide (b.length ≤ 1000) && upB b else decide (b.length = 0)) &&
    (if k = 3 then decide (1 ≤ t) else decide (t = 0)) && (decide (k ≤ 3) || decide (ks.length = 0))) := rfl
theorem tail1 : aggTail (.mk n 1 f s b t ks) = (decide (1 ≤ s) && decide (s ≤ 1000) && decide (b.length = 0) && decide (t = 0)) := by
  rw [tail_def, if_pos rfl, if_neg (show ¬ (1 : Int) = 2 by decide), if_neg (show ¬ (1 : Int) = 3 by decide), decide_eq_true (show (1 : Int) ≤ 3 by decide), Bool.true_or, Bool.and_true]
theorem tail2 : aggTail (.mk n 2 f s b t ks) = (decide (s = 0) && (decide (2 ≤ b.length) && decide (b.length ≤ 1000) && upB b) && decide (t = 0)) := by
  rw [tail_def, if_neg (show ¬ (2 : Int) = 1 by decide), if_pos rfl, if_neg (show ¬ (2 : Int) = 3 by decide), decide_eq_true (show (2 : Int) ≤ 3 by decide), Bool.true_or, Bool.and_true]
theorem tail3 : aggTail (.mk n 3 f s b t ks) = (decide (s = 0) && decide (b.length = 0) && decide (1 ≤ t)) := by
  rw [tail_def, if_neg (show ¬ (3 : Int) = 1 by decide), if_neg (show ¬ (3 : Int) = 2 by decide), if_pos rfl, decide_eq_true (show (3 : Int) ≤ 3 by decide), Bool.true_or, Bool.and_true]
theorem tail4 (h : ¬ k = 1 ∧ ¬ k = 2 ∧ ¬ k = 3 ∧ ¬ k ≤ 3) : aggTail (.mk n k f s b t ks) = (decide (s = 0) && decide (b.length = 0) && decide (t = 0) && decide (ks.length = 0)) := by
  rw [tail_def, if_neg h.1, if_neg h.2.1, if_neg h.2.2.1, decide_eq_false h.2.2.2, Bool.false_or]
end
/-- The head's ways. -/
theorem head_ways (nb d : Bool) (k : Int) (f : ByteArray) : (nb = false) ∨ (nb = true ∧ d = true) ∨ (nb = true ∧ d = false ∧ k < 1) ∨ (nb = true ∧ d = false ∧ 8 < k) ∨ (nb = true ∧ d = false ∧ k = 4 ∧ f = ⟨#[]⟩) ∨ (nb = true ∧ d = false ∧ k = 4 ∧ (f.toList == (⟨#[]⟩ : ByteArray).toList) = false ∧ ¬ f.toList = [] ∧ (f.toList == []) = false ∧ ¬ f = ⟨#[]⟩ ∧ ¬ f.size = 0) ∨ (nb = true ∧ d = false ∧ 1 ≤ k ∧ k ≤ 8 ∧ ¬ k = 4) := by
  cases nb
  · exact .inl rfl
  · cases d
    · have h := empty_cases f
      rcases (show k < 1 ∨ 8 < k ∨ k = 4 ∨ (1 ≤ k ∧ k ≤ 8 ∧ ¬ k = 4) by omega) with g | g | g | g
      · exact .inr (.inr (.inl ⟨rfl, rfl, g⟩))
      · exact .inr (.inr (.inr (.inl ⟨rfl, rfl, g⟩)))
      · rcases h with h | h
        · exact .inr (.inr (.inr (.inr (.inl ⟨rfl, rfl, g, h⟩))))
        · exact .inr (.inr (.inr (.inr (.inr (.inl ⟨rfl, rfl, g, h⟩)))))
      · exact .inr (.inr (.inr (.inr (.inr (.inr ⟨rfl, rfl, g⟩)))))
    · exact .inr (.inl ⟨rfl, rfl⟩)
set_option maxRecDepth 100000 in
set_option maxHeartbeats 8000000 in
theorem agg_any (ga : Nat) (l : List FT) (g : AggT) (us : List Value) (before : List AggT) (A : Option Addr) (cap : Nat) (w : World) (h : Sk w ga l) (hg : T.AtL bare w (fun g => g < w.heap.size) (acells g) us) (hok : AOk g) (hb : AKeys w w.heap.size A before) (hl : before.length * 104 ≤ 140737488351232) :
    Calls Tryz.prog 54 #[.pointer (some ⟨ga, 0, none⟩), .agg us.toArray, .slice A before.length cap] w (Sch.IntB (aggO l g before) w) := by
  have HS := Lib.hid h
  have hga := h.1
  clear h
  obtain ⟨n, k, f, s, b, t, ks⟩ := g
  cases hok with
  | mk hn hk hf hs hbk ht hkl hka =>
  obtain ⟨vb, vk, rfl, hvb, hvk⟩ := at_acells hg
  obtain ⟨XB, cb, rfl, hcb, hcbm, hrb⟩ := at_nums hvb
  obtain ⟨XK, ck, rfl, _⟩ := at_slice hvk
  obtain ⟨r, hr⟩ : ∃ r, aggO l (.mk n k f s b t ks) before = r := ⟨_, rfl⟩
  have HR : Hid ((if aggHead (.mk n k f s b t ks) before then orE (aggField l (.mk n k f s b t ks)) (if aggTail (.mk n k f s b t ks) then 0 else 184) else 184) = r) := Lib.hid (by rw [← hr, aggO])
  rw [hr]
  have HC := Lib.hid (fun (W : World) (hW : Below w.heap.size w W) (hc : W.cell? ⟨w.heap.size, 0, none⟩ = some (.string n)) (hlt : w.heap.size < W.heap.size) => aggHas_any A cap before n w.heap.size W (hb.below hW) hl hc hlt)
  have HN := Lib.hid (fun W => name_any n W hn)
  have HF := Lib.hid (fun (W : World) (hW : Below w.heap.size w W) => field_any ga l f W (HS.out.below hW))
  have HRB := Lib.hid hrb
  have HH : Hid (aggHead (.mk n k f s b t ks) before = (nameB n && !(before.any fun x => decide (name_ x = n)) && decide (1 ≤ k) && decide (k ≤ 8) && (decide (k ≠ 4) || decide (f.size = 0)))) := Lib.hid rfl
  generalize (before.any fun x => decide (name_ x = n)) = d at *
  generalize nameB n = nb at *
  have hmf : ∀ (fn : Fn) (first cap : Array Value) (w : World), (Instr.makeFunc fn first cap).run Tryz.prog w = .ok (.func fn first cap) w := fun _ _ _ _ => rfl
  clear hr hg hb hvb hvk hrb hka hn hf hs ht
  go_enter Tryz.func54, Tryz.ntmps54
  go_wp2_with fail
  have hb1 := (Below.refl w.heap.size w).alloc (Nat.le_refl _) (Obj.cells #[.string n, .int .i64 k, .string f, .int .i64 s, .slice XB b.length cb, .int .i64 t, .slice XK ks.length ck] 87)
  have bg1 := Blk.new w 87 #[.string n, .int .i64 k, .string f, .int .i64 s, .slice XB b.length cb, .int .i64 t, .slice XK ks.length ck]
  refine (HC.out _ hb1 (bg1.cell 0) (by simp)).mono ?_
  rintro e w2 ⟨rfl, hb⟩
  have HB := Lib.hid (hb1.trans (hb.mono (by simp)))
  have BG := Lib.hid (bg1.below hb (by simp))
  clear hb hb1 bg1 HC hmf
  have hgg : w.heap.size < w2.heap.size := BG.out.lt
  go_upto_region 2 with fail
  have c0 : w2.cell? ⟨w.heap.size, 0, none⟩ = some (.string n) := BG.out.cell 0
  obtain ⟨hd, hhd⟩ : ∃ hd, aggHead (.mk n k f s b t ks) before = hd := ⟨_, rfl⟩
  rw [hhd] at HR HH
  clear hhd
  go_cut [42] (fun c wx => c = .bool (!hd) ∧ Hid (Below w.heap.size w wx) ∧ Hid (Blk wx w.heap.size 87 #[.string n, .int .i64 k, .string f, .int .i64 s, .slice XB b.length cb, .int .i64 t, .slice XK ks.length ck]))
  case first =>
    go_wp2_with fail
    refine (HN.out _).mono ?_
    rintro e w3 ⟨rfl, hb⟩
    have HB3 := Lib.hid (HB.out.trans (hb.mono HB.out.size))
    have BG3 := Lib.hid (BG.out.below hb hgg)
    clear hb c0
    have c1 : w3.cell? ⟨w.heap.size, 1, none⟩ = some (.int .i64 k) := BG3.out.cell 1
    have c2 : w3.cell? ⟨w.heap.size, 2, none⟩ = some (.string f) := BG3.out.cell 2
    rcases head_ways nb d k f with rfl | ⟨rfl, rfl⟩ | ⟨rfl, rfl, h1⟩ | ⟨rfl, rfl, h1⟩ | ⟨rfl, rfl, rfl, rfl⟩ | ⟨rfl, rfl, rfl, hne, hn2, hn3, hn4, hn5⟩ | ⟨rfl, rfl, h1, h8, h4⟩
    · have HX : Hid (hd = false) := Lib.hid (by rw [HH.out]; rfl)
      go_wp2_with fail
      go_meet
      rw [HX.out]
      exact ⟨rfl, HB3, BG3⟩
    · have HX : Hid (hd = false) := Lib.hid (by rw [HH.out]; rfl)
      go_wp2_with fail
      go_meet
      rw [HX.out]
      exact ⟨rfl, HB3, BG3⟩
    · have HX : Hid (hd = false) := Lib.hid (by rw [HH.out, decide_eq_false (show ¬ 1 ≤ k by omega)]; simp)
      have d1 : decide (k < (1 : Int)) = true := decide_eq_true h1
      go_wp2_with fail
      go_meet
      rw [HX.out]
      exact ⟨rfl, HB3, BG3⟩
    · have HX : Hid (hd = false) := Lib.hid (by rw [HH.out, decide_eq_false (show ¬ k ≤ 8 by omega)]; simp)
      have d1 : decide (k < (1 : Int)) = false := decide_eq_false (by omega)
      have d2 : decide ((8 : Int) < k) = true := decide_eq_true h1
      go_wp2_with fail
      go_meet
      rw [HX.out]
      exact ⟨rfl, HB3, BG3⟩
    · have HX : Hid (hd = true) := Lib.hid (by rw [HH.out]; rfl)
      go_wp2_with fail
      go_meet
      rw [HX.out]
      exact ⟨rfl, HB3, BG3⟩
    · have HX : Hid (hd = false) := Lib.hid (by rw [HH.out]; simp [hn5])
      clear hn5
      go_wp2_with fail
      go_meet
      rw [HX.out]
      exact ⟨rfl, HB3, BG3⟩
    · have HX : Hid (hd = true) := Lib.hid (by rw [HH.out, decide_eq_true h1, decide_eq_true h8, decide_eq_true (show k ≠ 4 from h4)]; rfl)
      have d1 : decide (k < (1 : Int)) = false := decide_eq_false (by omega)
      have d2 : decide ((8 : Int) < k) = false := decide_eq_false (by omega)
      have d4 : (k == (4 : Int)) = false := by rw [beq_eq_false_iff_ne]; exact h4
      go_wp2_with fail
      go_meet
      rw [HX.out]
      exact ⟨rfl, HB3, BG3⟩
  case rest =>
  obtain ⟨rfl, HB3, BG3⟩ := hcut
  cases hd with
  | false =>
    have HX : Hid (r = 184) := Lib.hid (HR.out.symm)
    go_wp2_with fail
    go_ret
    rw [HX.out]
    exact ⟨rfl, HB3.out⟩
  | true =>
  have HR2 : Hid (orE (aggField l (.mk n k f s b t ks)) (if aggTail (.mk n k f s b t ks) then 0 else 184) = r) := Lib.hid HR.out
  have hk1 : 1 ≤ k := by
    have := HH.out
    simp only [Bool.and_eq_true, decide_eq_true_eq, Eq.comm (a := true)] at this
    omega
  clear HR c0 HN HH HB BG
  have c1 : wc.cell? ⟨w.heap.size, 1, none⟩ = some (.int .i64 k) := BG3.out.cell 1
  have c2 : wc.cell? ⟨w.heap.size, 2, none⟩ = some (.string f) := BG3.out.cell 2
  go_upto_if 45 with fail
  go_cut [8, 9, 10, 57, 62] (fun _ _ _ _ _ wx => Hid (Below w.heap.size w wx) ∧ Hid (Blk wx w.heap.size 87 #[.string n, .int .i64 k, .string f, .int .i64 s, .slice XB b.length cb, .int .i64 t, .slice XK ks.length ck]) ∧ Hid ((if aggTail (.mk n k f s b t ks) then 0 else 184) = r))
  case first =>
    by_cases h4 : k = 4
    · subst h4
      have HX : Hid ((if aggTail (.mk n 4 f s b t ks) then 0 else 184) = r) := Lib.hid (by rw [← HR2.out, aggField_eq, if_pos rfl]; rfl)
      go_wp2_with fail
      go_meet
      exact ⟨HB3, BG3, HX⟩
    have n4 : (k != (4 : Int)) = true := by rw [bne_iff_ne]; exact h4
    have HAF : Hid (aggField l (.mk n k f s b t ks) = if (fieldG l f).2 = 0 then (if (if k = 1 then decide ((fieldG l f).1.kind = 2) else if k = 8 then numF (fieldG l f).1 || decide ((fieldG l f).1.kind = 2) else numF (fieldG l f).1) then 0 else 82) else (fieldG l f).2) := Lib.hid (by rw [aggField_eq, if_neg h4])
    have HG := Lib.hid (fieldG_two l f)
    go_wp2_with fail
    refine (HF.out _ HB3.out).mono ?_
    rintro e w4 ⟨vs, rfl, hb, hat⟩
    generalize fieldG l f = fe at *
    obtain ⟨⟨f0, f1, f2, f3, f4, f5, f6⟩, m⟩ := fe
    obtain ⟨vc, rfl, gc⟩ := at_fcells hat
    obtain ⟨X, z, rfl, _, _⟩ := at_slice gc
    dsimp only at *
    have HB4 := Lib.hid (HB3.out.trans (hb.mono HB3.out.size))
    have BG4 := Lib.hid (BG3.out.below hb BG3.out.lt)
    have hz4 : w.heap.size < w4.heap.size := BG4.out.lt
    have HNM := Lib.hid (fun W => numeric_any f0 f1 X f2.length z f3 f4 f5 f6 W)
    have HNF : Hid (numF ⟨f0, f1, f2, f3, f4, f5, f6⟩ = (decide (f1 = 3) || decide (f1 = 4))) := Lib.hid rfl
    generalize (decide (f1 = 3) || decide (f1 = 4)) = nf at *
    clear hb hat gc c1 c2
    go_wp2_with fail
    refine (HNM.out _).mono ?_
    rintro e w5 ⟨rfl, hb⟩
    have hz5 : (w4.alloc (Obj.cells #[.string f0, .int .i64 f1, .slice X f2.length z, .int .i64 f3, .int .i64 f4, .bool f5, .bool f6] 46)).heap.size = w4.heap.size + 1 := by simp
    have HB5 := Lib.hid ((HB4.out.alloc HB4.out.size (Obj.cells #[.string f0, .int .i64 f1, .slice X f2.length z, .int .i64 f3, .int .i64 f4, .bool f5, .bool f6] 46)).trans (hb.mono (by have := HB4.out.size; omega)))
    have BG5 := Lib.hid ((BG4.out.alloc (Obj.cells #[.string f0, .int .i64 f1, .slice X f2.length z, .int .i64 f3, .int .i64 f4, .bool f5, .bool f6] 46)).below hb (by omega))
    have bf5 := (Blk.new w4 46 #[.string f0, .int .i64 f1, .slice X f2.length z, .int .i64 f3, .int .i64 f4, .bool f5, .bool f6]).below hb (by omega)
    have cf1 : w5.cell? ⟨w4.heap.size, 1, none⟩ = some (.int .i64 f1) := bf5.cell 1
    have c1 : w5.cell? ⟨w.heap.size, 1, none⟩ = some (.int .i64 k) := BG5.out.cell 1
    clear hb bf5 hz5
    generalize w4.heap.size = gf at *
    -- what is asked
    have HW : Hid (orE (if m = 0 then (if (if k = 1 then decide (f1 = 2) else if k = 8 then nf || decide (f1 = 2) else nf) then 0 else 82) else m) (if aggTail (.mk n k f s b t ks) then 0 else 184) = r) := Lib.hid (by rw [← HR2.out, HAF.out, HNF.out])
    clear HR2 HAF HNF HF HNM
    rcases (show k = 1 ∨ k = 8 ∨ (¬ k = 1 ∧ ¬ k = 8) by omega) with rfl | rfl | ⟨h1, h8⟩
    · rcases HG.out with h | h
      · subst h
        by_cases hf2 : f1 = 2
        · subst hf2
          have HX : Hid ((if aggTail (.mk n 1 f s b t ks) then 0 else 184) = r) := Lib.hid HW.out
          go_wp2_with fail
          go_meet
          exact ⟨HB5, BG5, HX⟩
        · have g2 : (f1 == (2 : Int)) = false := by rw [beq_eq_false_iff_ne]; exact hf2
          have HX : Hid (r = 82) := Lib.hid (by rw [← HW.out, if_pos rfl, if_pos rfl, decide_eq_false hf2]; rfl)
          go_wp2_with fail
          go_ret
          rw [HX.out]
          exact ⟨rfl, HB5.out⟩
      · subst h
        have HX : Hid (r = 81) := Lib.hid (by rw [← HW.out]; rfl)
        go_wp2_with fail
        go_ret
        rw [HX.out]
        exact ⟨rfl, HB5.out⟩
    · cases nf with
      | true =>
        rcases HG.out with h | h
        · subst h
          have HX : Hid ((if aggTail (.mk n 8 f s b t ks) then 0 else 184) = r) := Lib.hid HW.out
          go_wp2_with fail
          go_meet
          exact ⟨HB5, BG5, HX⟩
        · subst h
          have HX : Hid (r = 81) := Lib.hid (by rw [← HW.out]; rfl)
          go_wp2_with fail
          go_ret
          rw [HX.out]
          exact ⟨rfl, HB5.out⟩
      | false =>
        rcases HG.out with h | h
        · subst h
          by_cases hf2 : f1 = 2
          · subst hf2
            have HX : Hid ((if aggTail (.mk n 8 f s b t ks) then 0 else 184) = r) := Lib.hid HW.out
            go_wp2_with fail
            go_meet
            exact ⟨HB5, BG5, HX⟩
          · have g2 : (f1 == (2 : Int)) = false := by rw [beq_eq_false_iff_ne]; exact hf2
            have HX : Hid (r = 82) := Lib.hid (by rw [← HW.out]; simp [hf2, orE])
            go_wp2_with fail
            go_ret
            rw [HX.out]
            exact ⟨rfl, HB5.out⟩
        · subst h
          have HX : Hid (r = 81) := Lib.hid (by rw [← HW.out]; rfl)
          go_wp2_with fail
          go_ret
          rw [HX.out]
          exact ⟨rfl, HB5.out⟩
    · have n1 : (k == (1 : Int)) = false := by rw [beq_eq_false_iff_ne]; exact h1
      have n8 : (k == (8 : Int)) = false := by rw [beq_eq_false_iff_ne]; exact h8
      have HW2 : Hid (orE (if m = 0 then (if nf then 0 else 82) else m) (if aggTail (.mk n k f s b t ks) then 0 else 184) = r) := Lib.hid (by rw [← HW.out, if_neg h1, if_neg h8])
      clear h1 h8 HW
      rcases HG.out with h | h
      · subst h
        cases nf with
        | true =>
          have HX : Hid ((if aggTail (.mk n k f s b t ks) then 0 else 184) = r) := Lib.hid HW2.out
          go_wp2_with fail
          go_meet
          exact ⟨HB5, BG5, HX⟩
        | false =>
          have HX : Hid (r = 82) := Lib.hid HW2.out.symm
          go_wp2_with fail
          go_ret
          rw [HX.out]
          exact ⟨rfl, HB5.out⟩
      · subst h
        have HX : Hid (r = 81) := Lib.hid (by rw [← HW2.out]; rfl)
        go_wp2_with fail
        go_ret
        rw [HX.out]
        exact ⟨rfl, HB5.out⟩
  case rest =>
  obtain ⟨HB6, BG6, HT⟩ := hcut
  clear HR2 BG3 HB3 HF c1 c2
  have c1 : wc.cell? ⟨w.heap.size, 1, none⟩ = some (.int .i64 k) := BG6.out.cell 1
  have c3 : wc.cell? ⟨w.heap.size, 3, none⟩ = some (.int .i64 s) := BG6.out.cell 3
  have c4 : wc.cell? ⟨w.heap.size, 4, none⟩ = some (.slice XB b.length cb) := BG6.out.cell 4
  have c5 : wc.cell? ⟨w.heap.size, 5, none⟩ = some (.int .i64 t) := BG6.out.cell 5
  have c6 : wc.cell? ⟨w.heap.size, 6, none⟩ = some (.slice XK ks.length ck) := BG6.out.cell 6
  have z3 : wc.frozen? ⟨w.heap.size, 3, none⟩ = false := BG6.out.frozen 3
  have z4 : wc.frozen? ⟨w.heap.size, 4, none⟩ = false := BG6.out.frozen 4
  have z5 : wc.frozen? ⟨w.heap.size, 5, none⟩ = false := BG6.out.frozen 5
  have hbn : b.length ≤ 140737488351232 := by have := hbk.1; omega
  have HBS : Hid (∀ i v, Below w.heap.size w (wc.setCell ⟨w.heap.size, i, none⟩ v)) := Lib.hid (fun i v => Below.setCell HB6.out (Nat.le_refl _) v)
  have HSB : Hid (s = 0 ∨ ((s != (0 : Int)) = true ∧ ¬ s = 0)) := Lib.hid (by by_cases h : s = 0; exact .inl h; exact .inr ⟨by rw [bne_iff_ne]; exact h, h⟩)
  have HTB : Hid (t = 0 ∨ ((t != (0 : Int)) = true ∧ ¬ t = 0)) := Lib.hid (by by_cases h : t = 0; exact .inl h; exact .inr ⟨by rw [bne_iff_ne]; exact h, h⟩)
  have HBB : Hid ((decide (0 < b.length) = false ∧ b.length = 0) ∨ (decide (0 < b.length) = true ∧ ¬ b.length = 0)) := Lib.hid (by
    by_cases h : b.length = 0
    · exact .inl ⟨decide_eq_false (by omega), h⟩
    · exact .inr ⟨decide_eq_true (by omega), h⟩)
  rcases (show k = 1 ∨ k = 2 ∨ k = 3 ∨ (¬ k = 1 ∧ ¬ k = 2 ∧ ¬ k = 3) by omega) with rfl | rfl | rfl | ⟨h1, h2, h3⟩
  · rw [tail1] at HT
    rcases (show s < 1 ∨ 1000 < s ∨ (1 ≤ s ∧ s ≤ 1000) by omega) with h | h | ⟨h, h9⟩
    · have d1 : decide ((1 : Int) ≤ s) = false := decide_eq_false (by omega)
      have HX : Hid (r = 184) := Lib.hid (by rw [← HT.out, if_neg (by simp only [Bool.and_eq_true, decide_eq_true_eq]; omega)])
      clear HT
      go_wp2_with fail
      go_ret
      rw [HX.out]
      exact ⟨rfl, HBS.out 3 _⟩
    · have d1 : decide ((1 : Int) ≤ s) = true := decide_eq_true (by omega)
      have d2 : decide (s ≤ (1000 : Int)) = false := decide_eq_false (by omega)
      have HX : Hid (r = 184) := Lib.hid (by rw [← HT.out, if_neg (by simp only [Bool.and_eq_true, decide_eq_true_eq]; omega)])
      clear HT
      go_wp2_with fail
      go_ret
      rw [HX.out]
      exact ⟨rfl, HBS.out 3 _⟩
    · have d1 : decide ((1 : Int) ≤ s) = true := decide_eq_true (by omega)
      have d2 : decide (s ≤ (1000 : Int)) = true := decide_eq_true (by omega)
      rcases HBB.out with ⟨e1, e2⟩ | ⟨e1, e2⟩
      · rcases HTB.out with rfl | ⟨e3, e4⟩
        ·
          have HX : Hid (r = 0) := Lib.hid (by rw [← HT.out, decide_eq_true h, decide_eq_true h9, decide_eq_true e2]; rfl)
          clear HT e2
          go_wp2_with fail
          go_ret
          rw [HX.out]
          exact ⟨rfl, HBS.out 3 _⟩
        ·
          have HX : Hid (r = 184) := Lib.hid (by rw [← HT.out, if_neg (by simp only [Bool.and_eq_true, decide_eq_true_eq]; omega)])
          clear HT e2 e4
          go_wp2_with fail
          go_ret
          rw [HX.out]
          exact ⟨rfl, HBS.out 3 _⟩
      ·
        have HX : Hid (r = 184) := Lib.hid (by rw [← HT.out, if_neg (by simp only [Bool.and_eq_true, decide_eq_true_eq]; omega)])
        clear HT e2
        go_wp2_with fail
        go_ret
        rw [HX.out]
        exact ⟨rfl, HBS.out 3 _⟩
  · rw [tail2] at HT
    have HRX : Hid (Reads wc w.heap.size 1 XB b.length (b.map (Value.int .i64))) := Lib.hid (HRB.out.below HB6.out)
    obtain ⟨ok0, hok0⟩ : ∃ o, (decide (2 ≤ b.length) && decide (b.length ≤ 1000)) = o := ⟨_, rfl⟩
    have HOK := Lib.hid hok0
    clear hok0
    go_upto_region 23 with fail
    go_cut [11] (fun o wx => o = .bool ok0 ∧ wx = wc)
    case first =>
      rcases (show b.length < 2 ∨ 1000 < b.length ∨ (2 ≤ b.length ∧ b.length ≤ 1000) by omega) with h | h | ⟨h, h9⟩
      · have d1 : decide ((2 : Int) ≤ (b.length : Int)) = false := decide_eq_false (by omega)
        have d2 : decide (2 ≤ b.length) = false := decide_eq_false (by omega)
        obtain rfl : ok0 = false := by rw [← HOK.out, d2]; rfl
        clear h
        go_wp2_with fail
        go_meet
        exact ⟨rfl, rfl⟩
      · have d1 : decide ((2 : Int) ≤ (b.length : Int)) = true := decide_eq_true (by omega)
        have d2 : decide (2 ≤ b.length) = true := decide_eq_true (by omega)
        have d3 : decide ((b.length : Int) ≤ (1000 : Int)) = false := decide_eq_false (by omega)
        have d4 : decide (b.length ≤ 1000) = false := decide_eq_false (by omega)
        obtain rfl : ok0 = false := by rw [← HOK.out, d2, d4]; rfl
        clear h
        go_wp2_with fail
        go_meet
        exact ⟨rfl, rfl⟩
      · have d1 : decide ((2 : Int) ≤ (b.length : Int)) = true := decide_eq_true (by omega)
        have d2 : decide (2 ≤ b.length) = true := decide_eq_true (by omega)
        have d3 : decide ((b.length : Int) ≤ (1000 : Int)) = true := decide_eq_true (by omega)
        have d4 : decide (b.length ≤ 1000) = true := decide_eq_true (by omega)
        obtain rfl : ok0 = true := by rw [← HOK.out, d2, d4]; rfl
        clear h h9
        go_wp2_with fail
        go_meet
        exact ⟨rfl, rfl⟩
    case rest =>
    obtain ⟨rfl, hwc⟩ := hcut
    subst hwc
    have HO : Hid ((ok0 && upB (b.drop 0)) = (ok0 && upB b)) := Lib.hid rfl
    have HT2 : Hid ((if (decide (s = 0) && (ok0 && upB b) && decide (t = 0)) = true then 0 else 184) = r) := Lib.hid (by rw [← HT.out, HOK.out])
    clear HT HOK
    obtain ⟨R, hR⟩ : ∃ R, (ok0 && upB b) = R := ⟨_, rfl⟩
    rw [hR] at HO HT2
    clear hR
    go_wp2_with fail
    go_loopw [11, 12] (fun o i wr => ∃ (j : Nat) (ob : Bool), i = .int .i64 ((j : Int) + 1) ∧ o = .bool ob ∧ (j = 0 ∨ j + 1 ≤ b.length) ∧ Hid ((ob && upB (b.drop j)) = R) ∧ Hid (Below w.heap.size w wr) ∧ Hid (Blk wr w.heap.size 87 #[.string n, .int .i64 2, .string f, .int .i64 s, .slice XB b.length cb, .int .i64 t, .slice XK ks.length ck]) ∧ Hid (Reads wr w.heap.size 1 XB b.length (b.map (Value.int .i64)))) (fun _ i _ => b.length + 1 - (intOf i).toNat)
    case atStart => exact ⟨0, ok0, rfl, rfl, .inl rfl, HO, HB6, BG6, HRX⟩
    case round =>
      clear HBS c1 c3 c4 c5 c6 z3 z4 z5 HB6 BG6 HRX HO
      obtain ⟨j, ob, rfl, rfl, hj, HJ, HW, BW, RW⟩ := hrel
      have c4 : wr.cell? ⟨w.heap.size, 4, none⟩ = some (.slice XB b.length cb) := BW.out.cell 4
      by_cases hlt : j + 1 < b.length
      · have hlt2 : (j : Int) + 1 < (b.length : Int) := by omega
        have hj1 : (j : Int) < (b.length : Int) := by omega
        have hj0 : (0 : Int) ≤ (j : Int) := by omega
        have hj2 : (0 : Int) ≤ (j : Int) + 1 := by omega
        have ht1 : ((j : Int) + 1).toNat = j + 1 := by omega
        have hw2 : IntKind.i64.wrap (j : Int) = (j : Int) := IntWalk.i64_in _ (by omega)
        have hw1 : IntKind.i64.wrap ((j : Int) + 1 - 1) = (j : Int) := by rw [show (j : Int) + 1 - 1 = (j : Int) by omega]; exact IntWalk.i64_in _ (by omega)
        have hstep : upB (b.drop j) = (decide (b[j] < b[j + 1]) && upB (b.drop (j + 1))) := upB_step (k := j + 1) (by omega) hlt
        have HST := Lib.hid hstep
        obtain ⟨ad, rfl, hba, hcs⟩ := RW.out.2 (by omega)
        have a0 : wr.cell? (ad.add j) = some (.int .i64 b[j]) := hcs j _ (by simp)
        have a1 : wr.cell? ⟨ad.block, ad.off + (j + 1), none⟩ = some (.int .i64 b[j + 1]) := by
          have := hcs (j + 1) (.int .i64 b[j + 1]) (by simp [hlt])
          unfold Addr.add at this
          rwa [if_neg (by omega)] at this
        clear hcs hstep
        generalize b[j] = x at *
        generalize b[j + 1] = y at *
        cases ob with
        | true =>
          have HJ2 : Hid ((decide (x < y) && upB (b.drop (j + 1))) = R) := Lib.hid (by rw [← HST.out]; exact HJ.out)
          go_upto_region 27 with fail
          go_quiet (fail)
          go_wp2_with fail
          go_roundw
          case rel => exact ⟨j + 1, decide (x < y), by go_num, rfl, .inr (by omega), HJ2, Lib.hid (below_drewN HW.out _), Lib.hid (BW.out.drewN _), Lib.hid (RW.out.drewN _)⟩
          case measure => simp [intOf]; omega
        | false =>
          have HJ2 : Hid ((false && upB (b.drop (j + 1))) = R) := Lib.hid (HJ.out)
          go_upto_region 27 with fail
          go_quiet (fail)
          go_wp2_with fail
          go_roundw
          case rel => exact ⟨j + 1, false, by go_num, rfl, .inr (by omega), HJ2, Lib.hid (below_drewN HW.out _), Lib.hid (BW.out.drewN _), Lib.hid (RW.out.drewN _)⟩
          case measure => simp [intOf]; omega
      · obtain rfl : ob = R := by rw [← HJ.out, show j = j + 1 - 1 by omega, upB_end (by omega) (by omega), Bool.and_true]
        have c3 : wr.cell? ⟨w.heap.size, 3, none⟩ = some (.int .i64 s) := BW.out.cell 3
        have c5 : wr.cell? ⟨w.heap.size, 5, none⟩ = some (.int .i64 t) := BW.out.cell 5
        have z4 : wr.frozen? ⟨w.heap.size, 4, none⟩ = false := BW.out.frozen 4
        have HBZ : Hid (∀ v, Below w.heap.size w (wr.setCell ⟨w.heap.size, 4, none⟩ v)) := Lib.hid (fun v => Below.setCell HW.out (Nat.le_refl _) v)
        have hge : ¬ (j : Int) + 1 < (b.length : Int) := by omega
        cases ob with
        | false =>
          have HX : Hid (r = 184) := Lib.hid (by rw [← HT2.out]; simp)
          go_wp2_with fail
          go_ret
          rw [HX.out]
          exact ⟨rfl, HBZ.out _⟩
        | true =>
          rcases HSB.out with rfl | ⟨e3, e4⟩
          · rcases HTB.out with rfl | ⟨e5, e6⟩
            · have HX : Hid (r = 0) := Lib.hid HT2.out.symm
              go_wp2_with fail
              go_ret
              rw [HX.out]
              exact ⟨rfl, HBZ.out _⟩
            · have HX : Hid (r = 184) := Lib.hid (by rw [← HT2.out, decide_eq_false e6]; rfl)
              clear e6
              go_wp2_with fail
              go_ret
              rw [HX.out]
              exact ⟨rfl, HBZ.out _⟩
          · have HX : Hid (r = 184) := Lib.hid (by rw [← HT2.out, decide_eq_false e4]; rfl)
            clear e4
            go_wp2_with fail
            go_ret
            rw [HX.out]
            exact ⟨rfl, HBZ.out _⟩
  · rw [tail3] at HT
    by_cases h : 1 ≤ t
    · have d1 : decide ((1 : Int) ≤ t) = true := decide_eq_true (by omega)
      rcases HSB.out with rfl | ⟨e3, e4⟩
      · rcases HBB.out with ⟨e1, e2⟩ | ⟨e1, e2⟩
        ·
          have HX : Hid (r = 0) := Lib.hid (by rw [← HT.out, decide_eq_true e2, decide_eq_true h]; rfl)
          clear HT e2
          go_wp2_with fail
          go_ret
          rw [HX.out]
          exact ⟨rfl, HBS.out 5 _⟩
        ·
          have HX : Hid (r = 184) := Lib.hid (by rw [← HT.out, if_neg (by simp only [Bool.and_eq_true, decide_eq_true_eq]; omega)])
          clear HT e2
          go_wp2_with fail
          go_ret
          rw [HX.out]
          exact ⟨rfl, HBS.out 5 _⟩
      ·
        have HX : Hid (r = 184) := Lib.hid (by rw [← HT.out, if_neg (by simp only [Bool.and_eq_true, decide_eq_true_eq]; omega)])
        clear HT e4
        go_wp2_with fail
        go_ret
        rw [HX.out]
        exact ⟨rfl, HBS.out 5 _⟩
    · have d1 : decide ((1 : Int) ≤ t) = false := decide_eq_false (by omega)
      have HX : Hid (r = 184) := Lib.hid (by rw [← HT.out, if_neg (by simp only [Bool.and_eq_true, decide_eq_true_eq]; omega)])
      clear HT
      go_wp2_with fail
      go_ret
      rw [HX.out]
      exact ⟨rfl, HBS.out 5 _⟩
  · rw [tail4 n k f s b t ks ⟨h1, h2, h3, by omega⟩] at HT
    have n1 : (k == (1 : Int)) = false := by rw [beq_eq_false_iff_ne]; exact h1
    have n2 : (k == (2 : Int)) = false := by rw [beq_eq_false_iff_ne]; exact h2
    have n3 : (k == (3 : Int)) = false := by rw [beq_eq_false_iff_ne]; exact h3
    by_cases h : ks.length = 0
    · have d1 : ((ks.length : Int) == (0 : Int)) = true := by rw [beq_iff_eq]; omega
      rcases HSB.out with rfl | ⟨e3, e4⟩
      · rcases HBB.out with ⟨e1, e2⟩ | ⟨e1, e2⟩
        · rcases HTB.out with rfl | ⟨e5, e6⟩
          ·
            have HX : Hid (r = 0) := Lib.hid (by rw [← HT.out, decide_eq_true e2, decide_eq_true h]; rfl)
            clear HT e2 h
            go_wp2_with fail
            go_ret
            rw [HX.out]
            exact ⟨rfl, HB6.out⟩
          ·
            have HX : Hid (r = 184) := Lib.hid (by rw [← HT.out, if_neg (by simp only [Bool.and_eq_true, decide_eq_true_eq]; omega)])
            clear HT e2 e6 h
            go_wp2_with fail
            go_ret
            rw [HX.out]
            exact ⟨rfl, HB6.out⟩
        ·
          have HX : Hid (r = 184) := Lib.hid (by rw [← HT.out, if_neg (by simp only [Bool.and_eq_true, decide_eq_true_eq]; omega)])
          clear HT e2 h
          go_wp2_with fail
          go_ret
          rw [HX.out]
          exact ⟨rfl, HB6.out⟩
      ·
        have HX : Hid (r = 184) := Lib.hid (by rw [← HT.out, if_neg (by simp only [Bool.and_eq_true, decide_eq_true_eq]; omega)])
        clear HT e4 h
        go_wp2_with fail
        go_ret
        rw [HX.out]
        exact ⟨rfl, HB6.out⟩
    · have d1 : ((ks.length : Int) == (0 : Int)) = false := by rw [beq_eq_false_iff_ne]; omega
      have HX : Hid (r = 184) := Lib.hid (by rw [← HT.out, if_neg (by simp only [Bool.and_eq_true, decide_eq_true_eq]; omega)])
      clear HT h
      go_wp2_with fail
      go_ret
      rw [HX.out]
      exact ⟨rfl, HB6.out⟩
end Go.Proofs.YtinmiekbhoemjaaGreatDoor.Qck
