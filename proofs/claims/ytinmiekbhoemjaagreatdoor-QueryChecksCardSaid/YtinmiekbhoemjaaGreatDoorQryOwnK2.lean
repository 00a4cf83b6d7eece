/- Contract: query.own at the kinds 7, 9, 10 and at none. Written by gen_own.py. -/
import Derived.Test.YtinmiekbhoemjaaGreatDoorPack12
set_option linter.unusedVariables false
namespace Go.Proofs.YtinmiekbhoemjaaGreatDoor.Qry
open Go.RowKit Words Tree QryP Kit Sch SchP

section
variable (kd oc : Int) (f t u : ByteArray) (L H K : Option Addr) (nl cl nh ch nk ck : Nat) (b op under : Int) (w : World)
theorem blk_fst (w : World) (o2 : Obj) (cs : Array Value) (t : TypeId) : Blk ((w.alloc (.cells cs t)).alloc o2) w.heap.size t cs := (Blk.new w t cs).alloc o2
set_option maxRecDepth 100000 in
set_option maxHeartbeats 16000000 in
theorem own_7_0 (ho : occB under oc = true ∧ under = 8 ∧ 1 ≤ oc ∧ oc ≤ 4) (hk : kd = 7) (hf : f.size ≤ 140737488351232) :
    Calls Tryz.prog 50 #[.agg #[.int .i64 kd, .int .i64 oc, .string f, .string t, .string u, .slice L nl cl, .slice H nh ch, .int .i64 b, .int .i64 op, .slice K nk ck], .int .i64 under] w (AnsB (decide (1 ≤ nl ∧ nl ≤ 4 ∧ nh = nl) && nameB f && emptyB ⟨#[]⟩ t u 0 0 b op nk) w) := by
  have hmf : ∀ (fn : Fn) (first cap : Array Value) (w : World), (Instr.makeFunc fn first cap).run Tryz.prog w = .ok (.func fn first cap) w := fun _ _ _ _ => rfl
  have HE := Lib.hid (fun W => empty_any 0 0 ⟨#[]⟩ t u none none K 0 0 0 0 nk ck b op W)
  generalize emptyB ⟨#[]⟩ t u 0 0 b op nk = r at *
  have HN := Lib.hid (fun W => name_any f W hf)
  generalize nameB f = nb at *
  obtain ⟨_, h1, h2, h3⟩ := ho
  subst h1
  have d1 : decide (oc < 1) = false := decide_eq_false (by omega)
  have d2 : decide (4 < oc) = false := decide_eq_false (by omega)
  subst hk
  rcases (show ¬ 1 ≤ nl ∨ (1 ≤ nl ∧ ¬ nl ≤ 4) ∨ (1 ≤ nl ∧ nl ≤ 4 ∧ ¬ nh = nl) ∨ (1 ≤ nl ∧ nl ≤ 4 ∧ nh = nl) by omega) with g1 | ⟨g1, g2⟩ | ⟨g1, g2, g3⟩ | ⟨g1, g2, g3⟩
  · have k1 : decide (1 ≤ (nl : Int)) = false := decide_eq_false (by omega)
    have hr : decide (1 ≤ nl ∧ nl ≤ 4 ∧ nh = nl) = false := decide_eq_false (by omega)
    have HR := Lib.hid hr
    clear hr
    go_enter Tryz.func50, Tryz.ntmps50
    go_wp2_with fail
    refine (named0 (w.heap.size + 1) _ _ (blk_two w _ _ _) rfl).mono ?_
    rintro e w1 ⟨rfl, rfl⟩
    go_wp2_with fail
    go_ret
    exact ⟨by rw [HR.out]; simp, ((Below.refl _ w).alloc (Nat.le_refl _) _).alloc (by simp) _⟩
  · have k1 : decide (1 ≤ (nl : Int)) = true := decide_eq_true (by omega)
    have k2 : decide ((nl : Int) ≤ 4) = false := decide_eq_false (by omega)
    have hr : decide (1 ≤ nl ∧ nl ≤ 4 ∧ nh = nl) = false := decide_eq_false (by omega)
    have HR := Lib.hid hr
    clear hr
    go_enter Tryz.func50, Tryz.ntmps50
    go_wp2_with fail
    refine (named0 (w.heap.size + 1) _ _ (blk_two w _ _ _) rfl).mono ?_
    rintro e w1 ⟨rfl, rfl⟩
    go_wp2_with fail
    go_ret
    exact ⟨by rw [HR.out]; simp, ((Below.refl _ w).alloc (Nat.le_refl _) _).alloc (by simp) _⟩
  · have k1 : decide (1 ≤ (nl : Int)) = true := decide_eq_true (by omega)
    have k2 : decide ((nl : Int) ≤ 4) = true := decide_eq_true (by omega)
    have k3 : ((nh : Int) == (nl : Int)) = false := by rw [beq_eq_false_iff_ne]; omega
    have hr : decide (1 ≤ nl ∧ nl ≤ 4 ∧ nh = nl) = false := decide_eq_false (by omega)
    have HR := Lib.hid hr
    clear hr
    go_enter Tryz.func50, Tryz.ntmps50
    go_wp2_with fail
    refine (named0 (w.heap.size + 1) _ _ (blk_two w _ _ _) rfl).mono ?_
    rintro e w1 ⟨rfl, rfl⟩
    go_wp2_with fail
    go_ret
    exact ⟨by rw [HR.out]; simp, ((Below.refl _ w).alloc (Nat.le_refl _) _).alloc (by simp) _⟩
  · have k1 : decide (1 ≤ (nl : Int)) = true := decide_eq_true (by omega)
    have k2 : decide ((nl : Int) ≤ 4) = true := decide_eq_true (by omega)
    have hr : decide (1 ≤ nl ∧ nl ≤ 4 ∧ nh = nl) = true := decide_eq_true (by omega)
    have HR := Lib.hid hr
    obtain rfl : nl = nh := by omega
    clear hr
    go_enter Tryz.func50, Tryz.ntmps50
    go_wp2_with fail
    refine (named0 (w.heap.size + 1) _ _ (blk_two w _ _ _) rfl).mono ?_
    rintro e w1 ⟨rfl, rfl⟩
    go_wp2_with fail
    refine (HN.out _).mono ?_
    rintro e V ⟨rfl, hb⟩
    have HB := Lib.hid (fin2 rfl hb)
    obtain ⟨c0, c1, c2, c3, c4, c5, c6, c7, c8, c9⟩ := tenB ((blk_two w _ _ _).below hb (blk_two w _ _ _).lt)
    clear hb
    cases nb
    · go_wp2_with fail
      go_ret
      exact ⟨by rw [HR.out]; simp, HB.out⟩
    · go_wp2_with fail
      refine (HE.out _).mono ?_
      rintro e V2 ⟨rfl, hb⟩
      have HB2 := Lib.hid (HB.out.trans (hb.mono HB.out.size))
      clear hb c0 c1 c2 c3 c4 c5 c6 c7 c8 c9
      go_wp2_with fail
      go_ret
      exact ⟨by rw [HR.out]; simp, HB2.out⟩
set_option maxRecDepth 100000 in
set_option maxHeartbeats 16000000 in
theorem own_7_1 (ho : occB under oc = true ∧ ¬ under = 8 ∧ oc = 0) (hk : kd = 7) (hf : f.size ≤ 140737488351232) :
    Calls Tryz.prog 50 #[.agg #[.int .i64 kd, .int .i64 oc, .string f, .string t, .string u, .slice L nl cl, .slice H nh ch, .int .i64 b, .int .i64 op, .slice K nk ck], .int .i64 under] w (AnsB (decide (1 ≤ nl ∧ nl ≤ 4 ∧ nh = nl) && nameB f && emptyB ⟨#[]⟩ t u 0 0 b op nk) w) := by
  have hmf : ∀ (fn : Fn) (first cap : Array Value) (w : World), (Instr.makeFunc fn first cap).run Tryz.prog w = .ok (.func fn first cap) w := fun _ _ _ _ => rfl
  have HE := Lib.hid (fun W => empty_any 0 0 ⟨#[]⟩ t u none none K 0 0 0 0 nk ck b op W)
  generalize emptyB ⟨#[]⟩ t u 0 0 b op nk = r at *
  have HN := Lib.hid (fun W => name_any f W hf)
  generalize nameB f = nb at *
  obtain ⟨_, h1, h2⟩ := ho
  subst h2
  have d1 : (under == 8) = false := by simpa using h1
  have d2 : (under != 8) = true := by simpa using h1
  subst hk
  rcases (show ¬ 1 ≤ nl ∨ (1 ≤ nl ∧ ¬ nl ≤ 4) ∨ (1 ≤ nl ∧ nl ≤ 4 ∧ ¬ nh = nl) ∨ (1 ≤ nl ∧ nl ≤ 4 ∧ nh = nl) by omega) with g1 | ⟨g1, g2⟩ | ⟨g1, g2, g3⟩ | ⟨g1, g2, g3⟩
  · have k1 : decide (1 ≤ (nl : Int)) = false := decide_eq_false (by omega)
    have hr : decide (1 ≤ nl ∧ nl ≤ 4 ∧ nh = nl) = false := decide_eq_false (by omega)
    have HR := Lib.hid hr
    clear hr
    go_enter Tryz.func50, Tryz.ntmps50
    go_wp2_with fail
    refine (named0 (w.heap.size + 1) _ _ (blk_two w _ _ _) rfl).mono ?_
    rintro e w1 ⟨rfl, rfl⟩
    go_wp2_with fail
    go_ret
    exact ⟨by rw [HR.out]; simp, ((Below.refl _ w).alloc (Nat.le_refl _) _).alloc (by simp) _⟩
  · have k1 : decide (1 ≤ (nl : Int)) = true := decide_eq_true (by omega)
    have k2 : decide ((nl : Int) ≤ 4) = false := decide_eq_false (by omega)
    have hr : decide (1 ≤ nl ∧ nl ≤ 4 ∧ nh = nl) = false := decide_eq_false (by omega)
    have HR := Lib.hid hr
    clear hr
    go_enter Tryz.func50, Tryz.ntmps50
    go_wp2_with fail
    refine (named0 (w.heap.size + 1) _ _ (blk_two w _ _ _) rfl).mono ?_
    rintro e w1 ⟨rfl, rfl⟩
    go_wp2_with fail
    go_ret
    exact ⟨by rw [HR.out]; simp, ((Below.refl _ w).alloc (Nat.le_refl _) _).alloc (by simp) _⟩
  · have k1 : decide (1 ≤ (nl : Int)) = true := decide_eq_true (by omega)
    have k2 : decide ((nl : Int) ≤ 4) = true := decide_eq_true (by omega)
    have k3 : ((nh : Int) == (nl : Int)) = false := by rw [beq_eq_false_iff_ne]; omega
    have hr : decide (1 ≤ nl ∧ nl ≤ 4 ∧ nh = nl) = false := decide_eq_false (by omega)
    have HR := Lib.hid hr
    clear hr
    go_enter Tryz.func50, Tryz.ntmps50
    go_wp2_with fail
    refine (named0 (w.heap.size + 1) _ _ (blk_two w _ _ _) rfl).mono ?_
    rintro e w1 ⟨rfl, rfl⟩
    go_wp2_with fail
    go_ret
    exact ⟨by rw [HR.out]; simp, ((Below.refl _ w).alloc (Nat.le_refl _) _).alloc (by simp) _⟩
  · have k1 : decide (1 ≤ (nl : Int)) = true := decide_eq_true (by omega)
    have k2 : decide ((nl : Int) ≤ 4) = true := decide_eq_true (by omega)
    have hr : decide (1 ≤ nl ∧ nl ≤ 4 ∧ nh = nl) = true := decide_eq_true (by omega)
    have HR := Lib.hid hr
    obtain rfl : nl = nh := by omega
    clear hr
    go_enter Tryz.func50, Tryz.ntmps50
    go_wp2_with fail
    refine (named0 (w.heap.size + 1) _ _ (blk_two w _ _ _) rfl).mono ?_
    rintro e w1 ⟨rfl, rfl⟩
    go_wp2_with fail
    refine (HN.out _).mono ?_
    rintro e V ⟨rfl, hb⟩
    have HB := Lib.hid (fin2 rfl hb)
    obtain ⟨c0, c1, c2, c3, c4, c5, c6, c7, c8, c9⟩ := tenB ((blk_two w _ _ _).below hb (blk_two w _ _ _).lt)
    clear hb
    cases nb
    · go_wp2_with fail
      go_ret
      exact ⟨by rw [HR.out]; simp, HB.out⟩
    · go_wp2_with fail
      refine (HE.out _).mono ?_
      rintro e V2 ⟨rfl, hb⟩
      have HB2 := Lib.hid (HB.out.trans (hb.mono HB.out.size))
      clear hb c0 c1 c2 c3 c4 c5 c6 c7 c8 c9
      go_wp2_with fail
      go_ret
      exact ⟨by rw [HR.out]; simp, HB2.out⟩
set_option maxRecDepth 100000 in
set_option maxHeartbeats 16000000 in
theorem own_9_0 (ho : occB under oc = true ∧ under = 8 ∧ 1 ≤ oc ∧ oc ≤ 4) (hk : kd = 9) :
    Calls Tryz.prog 50 #[.agg #[.int .i64 kd, .int .i64 oc, .string f, .string t, .string u, .slice L nl cl, .slice H nh ch, .int .i64 b, .int .i64 op, .slice K nk ck], .int .i64 under] w (AnsB (decide (0 ≤ b ∧ b ≤ 1048576 ∧ nk = 1) && emptyB f t u nl nh 0 op 0) w) := by
  have hmf : ∀ (fn : Fn) (first cap : Array Value) (w : World), (Instr.makeFunc fn first cap).run Tryz.prog w = .ok (.func fn first cap) w := fun _ _ _ _ => rfl
  have HE := Lib.hid (fun W => empty_any 0 0 f t u L H none nl cl nh ch 0 0 0 op W)
  generalize emptyB f t u nl nh 0 op 0 = r at *
  obtain ⟨_, h1, h2, h3⟩ := ho
  subst h1
  have d1 : decide (oc < 1) = false := decide_eq_false (by omega)
  have d2 : decide (4 < oc) = false := decide_eq_false (by omega)
  subst hk
  rcases (show ¬ 0 ≤ b ∨ (0 ≤ b ∧ ¬ b ≤ 1048576) ∨ (0 ≤ b ∧ b ≤ 1048576 ∧ ¬ nk = 1) ∨ (0 ≤ b ∧ b ≤ 1048576 ∧ nk = 1) by omega) with g1 | ⟨g1, g2⟩ | ⟨g1, g2, g3⟩ | ⟨g1, g2, g3⟩
  · have k1 : decide (0 ≤ b) = false := decide_eq_false (by omega)
    have hr : decide (0 ≤ b ∧ b ≤ 1048576 ∧ nk = 1) = false := decide_eq_false (by omega)
    have HR := Lib.hid hr
    clear hr
    go_enter Tryz.func50, Tryz.ntmps50
    go_wp2_with fail
    refine (HE.out _).mono ?_
    rintro e V ⟨rfl, hb⟩
    have HB := Lib.hid (fin2 rfl hb)
    obtain ⟨c0, c1, c2, c3, c4, c5, c6, c7, c8, c9⟩ := tenB ((blk_fst w _ _ _).below hb (blk_fst w _ _ _).lt)
    clear hb
    cases r
    · go_wp2_with fail
      go_ret
      exact ⟨by rw [HR.out]; simp, HB.out⟩
    · go_wp2_with fail
      go_ret
      exact ⟨by rw [HR.out]; simp, HB.out⟩
  · have k1 : decide (0 ≤ b) = true := decide_eq_true (by omega)
    have k2 : decide (b ≤ 1048576) = false := decide_eq_false (by omega)
    have hr : decide (0 ≤ b ∧ b ≤ 1048576 ∧ nk = 1) = false := decide_eq_false (by omega)
    have HR := Lib.hid hr
    clear hr
    go_enter Tryz.func50, Tryz.ntmps50
    go_wp2_with fail
    refine (HE.out _).mono ?_
    rintro e V ⟨rfl, hb⟩
    have HB := Lib.hid (fin2 rfl hb)
    obtain ⟨c0, c1, c2, c3, c4, c5, c6, c7, c8, c9⟩ := tenB ((blk_fst w _ _ _).below hb (blk_fst w _ _ _).lt)
    clear hb
    cases r
    · go_wp2_with fail
      go_ret
      exact ⟨by rw [HR.out]; simp, HB.out⟩
    · go_wp2_with fail
      go_ret
      exact ⟨by rw [HR.out]; simp, HB.out⟩
  · have k1 : decide (0 ≤ b) = true := decide_eq_true (by omega)
    have k2 : decide (b ≤ 1048576) = true := decide_eq_true (by omega)
    have k3 : ((nk : Int) == 1) = false := by rw [beq_eq_false_iff_ne]; omega
    have hr : decide (0 ≤ b ∧ b ≤ 1048576 ∧ nk = 1) = false := decide_eq_false (by omega)
    have HR := Lib.hid hr
    clear hr
    go_enter Tryz.func50, Tryz.ntmps50
    go_wp2_with fail
    refine (HE.out _).mono ?_
    rintro e V ⟨rfl, hb⟩
    have HB := Lib.hid (fin2 rfl hb)
    obtain ⟨c0, c1, c2, c3, c4, c5, c6, c7, c8, c9⟩ := tenB ((blk_fst w _ _ _).below hb (blk_fst w _ _ _).lt)
    clear hb
    cases r
    · go_wp2_with fail
      go_ret
      exact ⟨by rw [HR.out]; simp, HB.out⟩
    · go_wp2_with fail
      go_ret
      exact ⟨by rw [HR.out]; simp, HB.out⟩
  · have k1 : decide (0 ≤ b) = true := decide_eq_true (by omega)
    have k2 : decide (b ≤ 1048576) = true := decide_eq_true (by omega)
    have k3 : ((nk : Int) == 1) = true := by rw [g3]; rfl
    have hr : decide (0 ≤ b ∧ b ≤ 1048576 ∧ nk = 1) = true := decide_eq_true (by omega)
    have HR := Lib.hid hr
    clear hr
    go_enter Tryz.func50, Tryz.ntmps50
    go_wp2_with fail
    refine (HE.out _).mono ?_
    rintro e V ⟨rfl, hb⟩
    have HB := Lib.hid (fin2 rfl hb)
    obtain ⟨c0, c1, c2, c3, c4, c5, c6, c7, c8, c9⟩ := tenB ((blk_fst w _ _ _).below hb (blk_fst w _ _ _).lt)
    clear hb
    cases r
    · go_wp2_with fail
      go_ret
      exact ⟨by rw [HR.out]; simp, HB.out⟩
    · go_wp2_with fail
      go_ret
      exact ⟨by rw [HR.out]; simp, HB.out⟩
set_option maxRecDepth 100000 in
set_option maxHeartbeats 16000000 in
theorem own_9_1 (ho : occB under oc = true ∧ ¬ under = 8 ∧ oc = 0) (hk : kd = 9) :
    Calls Tryz.prog 50 #[.agg #[.int .i64 kd, .int .i64 oc, .string f, .string t, .string u, .slice L nl cl, .slice H nh ch, .int .i64 b, .int .i64 op, .slice K nk ck], .int .i64 under] w (AnsB (decide (0 ≤ b ∧ b ≤ 1048576 ∧ nk = 1) && emptyB f t u nl nh 0 op 0) w) := by
  have hmf : ∀ (fn : Fn) (first cap : Array Value) (w : World), (Instr.makeFunc fn first cap).run Tryz.prog w = .ok (.func fn first cap) w := fun _ _ _ _ => rfl
  have HE := Lib.hid (fun W => empty_any 0 0 f t u L H none nl cl nh ch 0 0 0 op W)
  generalize emptyB f t u nl nh 0 op 0 = r at *
  obtain ⟨_, h1, h2⟩ := ho
  subst h2
  have d1 : (under == 8) = false := by simpa using h1
  have d2 : (under != 8) = true := by simpa using h1
  subst hk
  rcases (show ¬ 0 ≤ b ∨ (0 ≤ b ∧ ¬ b ≤ 1048576) ∨ (0 ≤ b ∧ b ≤ 1048576 ∧ ¬ nk = 1) ∨ (0 ≤ b ∧ b ≤ 1048576 ∧ nk = 1) by omega) with g1 | ⟨g1, g2⟩ | ⟨g1, g2, g3⟩ | ⟨g1, g2, g3⟩
  · have k1 : decide (0 ≤ b) = false := decide_eq_false (by omega)
    have hr : decide (0 ≤ b ∧ b ≤ 1048576 ∧ nk = 1) = false := decide_eq_false (by omega)
    have HR := Lib.hid hr
    clear hr
    go_enter Tryz.func50, Tryz.ntmps50
    go_wp2_with fail
    refine (HE.out _).mono ?_
    rintro e V ⟨rfl, hb⟩
    have HB := Lib.hid (fin2 rfl hb)
    obtain ⟨c0, c1, c2, c3, c4, c5, c6, c7, c8, c9⟩ := tenB ((blk_fst w _ _ _).below hb (blk_fst w _ _ _).lt)
    clear hb
    cases r
    · go_wp2_with fail
      go_ret
      exact ⟨by rw [HR.out]; simp, HB.out⟩
    · go_wp2_with fail
      go_ret
      exact ⟨by rw [HR.out]; simp, HB.out⟩
  · have k1 : decide (0 ≤ b) = true := decide_eq_true (by omega)
    have k2 : decide (b ≤ 1048576) = false := decide_eq_false (by omega)
    have hr : decide (0 ≤ b ∧ b ≤ 1048576 ∧ nk = 1) = false := decide_eq_false (by omega)
    have HR := Lib.hid hr
    clear hr
    go_enter Tryz.func50, Tryz.ntmps50
    go_wp2_with fail
    refine (HE.out _).mono ?_
    rintro e V ⟨rfl, hb⟩
    have HB := Lib.hid (fin2 rfl hb)
    obtain ⟨c0, c1, c2, c3, c4, c5, c6, c7, c8, c9⟩ := tenB ((blk_fst w _ _ _).below hb (blk_fst w _ _ _).lt)
    clear hb
    cases r
    · go_wp2_with fail
      go_ret
      exact ⟨by rw [HR.out]; simp, HB.out⟩
    · go_wp2_with fail
      go_ret
      exact ⟨by rw [HR.out]; simp, HB.out⟩
  · have k1 : decide (0 ≤ b) = true := decide_eq_true (by omega)
    have k2 : decide (b ≤ 1048576) = true := decide_eq_true (by omega)
    have k3 : ((nk : Int) == 1) = false := by rw [beq_eq_false_iff_ne]; omega
    have hr : decide (0 ≤ b ∧ b ≤ 1048576 ∧ nk = 1) = false := decide_eq_false (by omega)
    have HR := Lib.hid hr
    clear hr
    go_enter Tryz.func50, Tryz.ntmps50
    go_wp2_with fail
    refine (HE.out _).mono ?_
    rintro e V ⟨rfl, hb⟩
    have HB := Lib.hid (fin2 rfl hb)
    obtain ⟨c0, c1, c2, c3, c4, c5, c6, c7, c8, c9⟩ := tenB ((blk_fst w _ _ _).below hb (blk_fst w _ _ _).lt)
    clear hb
    cases r
    · go_wp2_with fail
      go_ret
      exact ⟨by rw [HR.out]; simp, HB.out⟩
    · go_wp2_with fail
      go_ret
      exact ⟨by rw [HR.out]; simp, HB.out⟩
  · have k1 : decide (0 ≤ b) = true := decide_eq_true (by omega)
    have k2 : decide (b ≤ 1048576) = true := decide_eq_true (by omega)
    have k3 : ((nk : Int) == 1) = true := by rw [g3]; rfl
    have hr : decide (0 ≤ b ∧ b ≤ 1048576 ∧ nk = 1) = true := decide_eq_true (by omega)
    have HR := Lib.hid hr
    clear hr
    go_enter Tryz.func50, Tryz.ntmps50
    go_wp2_with fail
    refine (HE.out _).mono ?_
    rintro e V ⟨rfl, hb⟩
    have HB := Lib.hid (fin2 rfl hb)
    obtain ⟨c0, c1, c2, c3, c4, c5, c6, c7, c8, c9⟩ := tenB ((blk_fst w _ _ _).below hb (blk_fst w _ _ _).lt)
    clear hb
    cases r
    · go_wp2_with fail
      go_ret
      exact ⟨by rw [HR.out]; simp, HB.out⟩
    · go_wp2_with fail
      go_ret
      exact ⟨by rw [HR.out]; simp, HB.out⟩
set_option maxRecDepth 100000 in
set_option maxHeartbeats 16000000 in
theorem own_10_0 (ho : occB under oc = true ∧ under = 8 ∧ 1 ≤ oc ∧ oc ≤ 4) (hk : kd = 10) (hf : f.size ≤ 140737488351232) :
    Calls Tryz.prog 50 #[.agg #[.int .i64 kd, .int .i64 oc, .string f, .string t, .string u, .slice L nl cl, .slice H nh ch, .int .i64 b, .int .i64 op, .slice K nk ck], .int .i64 under] w (AnsB (decide (1 ≤ op ∧ op ≤ 3 ∧ nl = 1 ∧ nk = 1) && nameB f && emptyB ⟨#[]⟩ t u 0 nh b 0 0) w) := by
  have hmf : ∀ (fn : Fn) (first cap : Array Value) (w : World), (Instr.makeFunc fn first cap).run Tryz.prog w = .ok (.func fn first cap) w := fun _ _ _ _ => rfl
  have HE := Lib.hid (fun W => empty_any 0 0 ⟨#[]⟩ t u none H none 0 0 nh ch 0 0 b 0 W)
  generalize emptyB ⟨#[]⟩ t u 0 nh b 0 0 = r at *
  have HN := Lib.hid (fun W => name_any f W hf)
  generalize nameB f = nb at *
  obtain ⟨_, h1, h2, h3⟩ := ho
  subst h1
  have d1 : decide (oc < 1) = false := decide_eq_false (by omega)
  have d2 : decide (4 < oc) = false := decide_eq_false (by omega)
  subst hk
  rcases (show ¬ 1 ≤ op ∨ (1 ≤ op ∧ ¬ op ≤ 3) ∨ (1 ≤ op ∧ op ≤ 3 ∧ ¬ nl = 1) ∨ (1 ≤ op ∧ op ≤ 3 ∧ nl = 1 ∧ ¬ nk = 1) ∨ (1 ≤ op ∧ op ≤ 3 ∧ nl = 1 ∧ nk = 1) by omega) with g1 | ⟨g1, g2⟩ | ⟨g1, g2, g3⟩ | ⟨g1, g2, g3, g4⟩ | ⟨g1, g2, g3, g4⟩
  · have k1 : decide (1 ≤ op) = false := decide_eq_false (by omega)
    have hr : decide (1 ≤ op ∧ op ≤ 3 ∧ nl = 1 ∧ nk = 1) = false := decide_eq_false (by omega)
    have HR := Lib.hid hr
    clear hr
    go_enter Tryz.func50, Tryz.ntmps50
    go_wp2_with fail
    refine (named0 (w.heap.size + 1) _ _ (blk_two w _ _ _) rfl).mono ?_
    rintro e w1 ⟨rfl, rfl⟩
    go_wp2_with fail
    go_ret
    exact ⟨by rw [HR.out]; simp, ((Below.refl _ w).alloc (Nat.le_refl _) _).alloc (by simp) _⟩
  · have k1 : decide (1 ≤ op) = true := decide_eq_true (by omega)
    have k2 : decide (op ≤ 3) = false := decide_eq_false (by omega)
    have hr : decide (1 ≤ op ∧ op ≤ 3 ∧ nl = 1 ∧ nk = 1) = false := decide_eq_false (by omega)
    have HR := Lib.hid hr
    clear hr
    go_enter Tryz.func50, Tryz.ntmps50
    go_wp2_with fail
    refine (named0 (w.heap.size + 1) _ _ (blk_two w _ _ _) rfl).mono ?_
    rintro e w1 ⟨rfl, rfl⟩
    go_wp2_with fail
    go_ret
    exact ⟨by rw [HR.out]; simp, ((Below.refl _ w).alloc (Nat.le_refl _) _).alloc (by simp) _⟩
  · have k1 : decide (1 ≤ op) = true := decide_eq_true (by omega)
    have k2 : decide (op ≤ 3) = true := decide_eq_true (by omega)
    have k3 : ((nl : Int) == 1) = false := by rw [beq_eq_false_iff_ne]; omega
    have hr : decide (1 ≤ op ∧ op ≤ 3 ∧ nl = 1 ∧ nk = 1) = false := decide_eq_false (by omega)
    have HR := Lib.hid hr
    clear hr
    go_enter Tryz.func50, Tryz.ntmps50
    go_wp2_with fail
    refine (named0 (w.heap.size + 1) _ _ (blk_two w _ _ _) rfl).mono ?_
    rintro e w1 ⟨rfl, rfl⟩
    go_wp2_with fail
    go_ret
    exact ⟨by rw [HR.out]; simp, ((Below.refl _ w).alloc (Nat.le_refl _) _).alloc (by simp) _⟩
  · have k1 : decide (1 ≤ op) = true := decide_eq_true (by omega)
    have k2 : decide (op ≤ 3) = true := decide_eq_true (by omega)
    have k3 : ((nl : Int) == 1) = true := by rw [g3]; rfl
    have k4 : ((nk : Int) == 1) = false := by rw [beq_eq_false_iff_ne]; omega
    have hr : decide (1 ≤ op ∧ op ≤ 3 ∧ nl = 1 ∧ nk = 1) = false := decide_eq_false (by omega)
    have HR := Lib.hid hr
    clear hr
    go_enter Tryz.func50, Tryz.ntmps50
    go_wp2_with fail
    refine (named0 (w.heap.size + 1) _ _ (blk_two w _ _ _) rfl).mono ?_
    rintro e w1 ⟨rfl, rfl⟩
    go_wp2_with fail
    go_ret
    exact ⟨by rw [HR.out]; simp, ((Below.refl _ w).alloc (Nat.le_refl _) _).alloc (by simp) _⟩
  · have k1 : decide (1 ≤ op) = true := decide_eq_true (by omega)
    have k2 : decide (op ≤ 3) = true := decide_eq_true (by omega)
    have k3 : ((nl : Int) == 1) = true := by rw [g3]; rfl
    have k4 : ((nk : Int) == 1) = true := by rw [g4]; rfl
    skip
    have hr : decide (1 ≤ op ∧ op ≤ 3 ∧ nl = 1 ∧ nk = 1) = true := decide_eq_true (by omega)
    have HR := Lib.hid hr
    clear hr
    go_enter Tryz.func50, Tryz.ntmps50
    go_wp2_with fail
    refine (named0 (w.heap.size + 1) _ _ (blk_two w _ _ _) rfl).mono ?_
    rintro e w1 ⟨rfl, rfl⟩
    go_wp2_with fail
    refine (HN.out _).mono ?_
    rintro e V ⟨rfl, hb⟩
    have HB := Lib.hid (fin2 rfl hb)
    obtain ⟨c0, c1, c2, c3, c4, c5, c6, c7, c8, c9⟩ := tenB ((blk_two w _ _ _).below hb (blk_two w _ _ _).lt)
    clear hb
    cases nb
    · go_wp2_with fail
      go_ret
      exact ⟨by rw [HR.out]; simp, HB.out⟩
    · go_wp2_with fail
      refine (HE.out _).mono ?_
      rintro e V2 ⟨rfl, hb⟩
      have HB2 := Lib.hid (HB.out.trans (hb.mono HB.out.size))
      clear hb c0 c1 c2 c3 c4 c5 c6 c7 c8 c9
      go_wp2_with fail
      go_ret
      exact ⟨by rw [HR.out]; simp, HB2.out⟩
set_option maxRecDepth 100000 in
set_option maxHeartbeats 16000000 in
theorem own_10_1 (ho : occB under oc = true ∧ ¬ under = 8 ∧ oc = 0) (hk : kd = 10) (hf : f.size ≤ 140737488351232) :
    Calls Tryz.prog 50 #[.agg #[.int .i64 kd, .int .i64 oc, .string f, .string t, .string u, .slice L nl cl, .slice H nh ch, .int .i64 b, .int .i64 op, .slice K nk ck], .int .i64 under] w (AnsB (decide (1 ≤ op ∧ op ≤ 3 ∧ nl = 1 ∧ nk = 1) && nameB f && emptyB ⟨#[]⟩ t u 0 nh b 0 0) w) := by
  have hmf : ∀ (fn : Fn) (first cap : Array Value) (w : World), (Instr.makeFunc fn first cap).run Tryz.prog w = .ok (.func fn first cap) w := fun _ _ _ _ => rfl
  have HE := Lib.hid (fun W => empty_any 0 0 ⟨#[]⟩ t u none H none 0 0 nh ch 0 0 b 0 W)
  generalize emptyB ⟨#[]⟩ t u 0 nh b 0 0 = r at *
  have HN := Lib.hid (fun W => name_any f W hf)
  generalize nameB f = nb at *
  obtain ⟨_, h1, h2⟩ := ho
  subst h2
  have d1 : (under == 8) = false := by simpa using h1
  have d2 : (under != 8) = true := by simpa using h1
  subst hk
  rcases (show ¬ 1 ≤ op ∨ (1 ≤ op ∧ ¬ op ≤ 3) ∨ (1 ≤ op ∧ op ≤ 3 ∧ ¬ nl = 1) ∨ (1 ≤ op ∧ op ≤ 3 ∧ nl = 1 ∧ ¬ nk = 1) ∨ (1 ≤ op ∧ op ≤ 3 ∧ nl = 1 ∧ nk = 1) by omega) with g1 | ⟨g1, g2⟩ | ⟨g1, g2, g3⟩ | ⟨g1, g2, g3, g4⟩ | ⟨g1, g2, g3, g4⟩
  · have k1 : decide (1 ≤ op) = false := decide_eq_false (by omega)
    have hr : decide (1 ≤ op ∧ op ≤ 3 ∧ nl = 1 ∧ nk = 1) = false := decide_eq_false (by omega)
    have HR := Lib.hid hr
    clear hr
    go_enter Tryz.func50, Tryz.ntmps50
    go_wp2_with fail
    refine (named0 (w.heap.size + 1) _ _ (blk_two w _ _ _) rfl).mono ?_
    rintro e w1 ⟨rfl, rfl⟩
    go_wp2_with fail
    go_ret
    exact ⟨by rw [HR.out]; simp, ((Below.refl _ w).alloc (Nat.le_refl _) _).alloc (by simp) _⟩
  · have k1 : decide (1 ≤ op) = true := decide_eq_true (by omega)
    have k2 : decide (op ≤ 3) = false := decide_eq_false (by omega)
    have hr : decide (1 ≤ op ∧ op ≤ 3 ∧ nl = 1 ∧ nk = 1) = false := decide_eq_false (by omega)
    have HR := Lib.hid hr
    clear hr
    go_enter Tryz.func50, Tryz.ntmps50
    go_wp2_with fail
    refine (named0 (w.heap.size + 1) _ _ (blk_two w _ _ _) rfl).mono ?_
    rintro e w1 ⟨rfl, rfl⟩
    go_wp2_with fail
    go_ret
    exact ⟨by rw [HR.out]; simp, ((Below.refl _ w).alloc (Nat.le_refl _) _).alloc (by simp) _⟩
  · have k1 : decide (1 ≤ op) = true := decide_eq_true (by omega)
    have k2 : decide (op ≤ 3) = true := decide_eq_true (by omega)
    have k3 : ((nl : Int) == 1) = false := by rw [beq_eq_false_iff_ne]; omega
    have hr : decide (1 ≤ op ∧ op ≤ 3 ∧ nl = 1 ∧ nk = 1) = false := decide_eq_false (by omega)
    have HR := Lib.hid hr
    clear hr
    go_enter Tryz.func50, Tryz.ntmps50
    go_wp2_with fail
    refine (named0 (w.heap.size + 1) _ _ (blk_two w _ _ _) rfl).mono ?_
    rintro e w1 ⟨rfl, rfl⟩
    go_wp2_with fail
    go_ret
    exact ⟨by rw [HR.out]; simp, ((Below.refl _ w).alloc (Nat.le_refl _) _).alloc (by simp) _⟩
  · have k1 : decide (1 ≤ op) = true := decide_eq_true (by omega)
    have k2 : decide (op ≤ 3) = true := decide_eq_true (by omega)
    have k3 : ((nl : Int) == 1) = true := by rw [g3]; rfl
    have k4 : ((nk : Int) == 1) = false := by rw [beq_eq_false_iff_ne]; omega
    have hr : decide (1 ≤ op ∧ op ≤ 3 ∧ nl = 1 ∧ nk = 1) = false := decide_eq_false (by omega)
    have HR := Lib.hid hr
    clear hr
    go_enter Tryz.func50, Tryz.ntmps50
    go_wp2_with fail
    refine (named0 (w.heap.size + 1) _ _ (blk_two w _ _ _) rfl).mono ?_
    rintro e w1 ⟨rfl, rfl⟩
    go_wp2_with fail
    go_ret
    exact ⟨by rw [HR.out]; simp, ((Below.refl _ w).alloc (Nat.le_refl _) _).alloc (by simp) _⟩
  · have k1 : decide (1 ≤ op) = true := decide_eq_true (by omega)
    have k2 : decide (op ≤ 3) = true := decide_eq_true (by omega)
    have k3 : ((nl : Int) == 1) = true := by rw [g3]; rfl
    have k4 : ((nk : Int) == 1) = true := by rw [g4]; rfl
    skip
    have hr : decide (1 ≤ op ∧ op ≤ 3 ∧ nl = 1 ∧ nk = 1) = true := decide_eq_true (by omega)
    have HR := Lib.hid hr
    clear hr
    go_enter Tryz.func50, Tryz.ntmps50
    go_wp2_with fail
    refine (named0 (w.heap.size + 1) _ _ (blk_two w _ _ _) rfl).mono ?_
    rintro e w1 ⟨rfl, rfl⟩
    go_wp2_with fail
    refine (HN.out _).mono ?_
    rintro e V ⟨rfl, hb⟩
    have HB := Lib.hid (fin2 rfl hb)
    obtain ⟨c0, c1, c2, c3, c4, c5, c6, c7, c8, c9⟩ := tenB ((blk_two w _ _ _).below hb (blk_two w _ _ _).lt)
    clear hb
    cases nb
    · go_wp2_with fail
      go_ret
      exact ⟨by rw [HR.out]; simp, HB.out⟩
    · go_wp2_with fail
      refine (HE.out _).mono ?_
      rintro e V2 ⟨rfl, hb⟩
      have HB2 := Lib.hid (HB.out.trans (hb.mono HB.out.size))
      clear hb c0 c1 c2 c3 c4 c5 c6 c7 c8 c9
      go_wp2_with fail
      go_ret
      exact ⟨by rw [HR.out]; simp, HB2.out⟩
set_option maxRecDepth 100000 in
set_option maxHeartbeats 16000000 in
theorem own_no_0 (ho : occB under oc = true ∧ under = 8 ∧ 1 ≤ oc ∧ oc ≤ 4) (hk : kd < 1 ∨ 10 < kd) :
    Calls Tryz.prog 50 #[.agg #[.int .i64 kd, .int .i64 oc, .string f, .string t, .string u, .slice L nl cl, .slice H nh ch, .int .i64 b, .int .i64 op, .slice K nk ck], .int .i64 under] w (AnsB (false) w) := by
  have hmf : ∀ (fn : Fn) (first cap : Array Value) (w : World), (Instr.makeFunc fn first cap).run Tryz.prog w = .ok (.func fn first cap) w := fun _ _ _ _ => rfl
  obtain ⟨_, h1, h2, h3⟩ := ho
  subst h1
  have d1 : decide (oc < 1) = false := decide_eq_false (by omega)
  have d2 : decide (4 < oc) = false := decide_eq_false (by omega)
  · have e1 : (kd == 1) = false := by rw [beq_eq_false_iff_ne]; omega
    have e2 : (kd == 2) = false := by rw [beq_eq_false_iff_ne]; omega
    have e3 : (kd == 3) = false := by rw [beq_eq_false_iff_ne]; omega
    have e4 : (kd == 4) = false := by rw [beq_eq_false_iff_ne]; omega
    have e5 : (kd == 5) = false := by rw [beq_eq_false_iff_ne]; omega
    have e6 : (kd == 6) = false := by rw [beq_eq_false_iff_ne]; omega
    have e7 : (kd == 7) = false := by rw [beq_eq_false_iff_ne]; omega
    have e8 : (kd == 8) = false := by rw [beq_eq_false_iff_ne]; omega
    have e9 : (kd == 9) = false := by rw [beq_eq_false_iff_ne]; omega
    have e10 : (kd == 10) = false := by rw [beq_eq_false_iff_ne]; omega
    go_enter Tryz.func50, Tryz.ntmps50
    go_wp2_with fail
    go_ret
    exact ⟨rfl, ((Below.refl _ w).alloc (Nat.le_refl _) _).alloc (by simp) _⟩
set_option maxRecDepth 100000 in
set_option maxHeartbeats 16000000 in
theorem own_no_1 (ho : occB under oc = true ∧ ¬ under = 8 ∧ oc = 0) (hk : kd < 1 ∨ 10 < kd) :
    Calls Tryz.prog 50 #[.agg #[.int .i64 kd, .int .i64 oc, .string f, .string t, .string u, .slice L nl cl, .slice H nh ch, .int .i64 b, .int .i64 op, .slice K nk ck], .int .i64 under] w (AnsB (false) w) := by
  have hmf : ∀ (fn : Fn) (first cap : Array Value) (w : World), (Instr.makeFunc fn first cap).run Tryz.prog w = .ok (.func fn first cap) w := fun _ _ _ _ => rfl
  obtain ⟨_, h1, h2⟩ := ho
  subst h2
  have d1 : (under == 8) = false := by simpa using h1
  have d2 : (under != 8) = true := by simpa using h1
  · have e1 : (kd == 1) = false := by rw [beq_eq_false_iff_ne]; omega
    have e2 : (kd == 2) = false := by rw [beq_eq_false_iff_ne]; omega
    have e3 : (kd == 3) = false := by rw [beq_eq_false_iff_ne]; omega
    have e4 : (kd == 4) = false := by rw [beq_eq_false_iff_ne]; omega
    have e5 : (kd == 5) = false := by rw [beq_eq_false_iff_ne]; omega
    have e6 : (kd == 6) = false := by rw [beq_eq_false_iff_ne]; omega
    have e7 : (kd == 7) = false := by rw [beq_eq_false_iff_ne]; omega
    have e8 : (kd == 8) = false := by rw [beq_eq_false_iff_ne]; omega
    have e9 : (kd == 9) = false := by rw [beq_eq_false_iff_ne]; omega
    have e10 : (kd == 10) = false := by rw [beq_eq_false_iff_ne]; omega
    go_enter Tryz.func50, Tryz.ntmps50
    go_wp2_with fail
    go_ret
    exact ⟨rfl, ((Below.refl _ w).alloc (Nat.le_refl _) _).alloc (by simp) _⟩
end
end Go.Proofs.YtinmiekbhoemjaaGreatDoor.Qry
