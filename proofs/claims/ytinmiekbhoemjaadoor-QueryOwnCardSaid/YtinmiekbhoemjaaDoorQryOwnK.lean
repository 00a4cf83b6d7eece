/- Contract: query.own at each kind. Written by gen_own.py. -/
import Derived.Test.YtinmiekbhoemjaaDoorPack41
set_option linter.unusedVariables false
namespace Go.Proofs.YtinmiekbhoemjaaDoor.Qry
open Go.RowKit Words Tree QryP Kit Sch SchP

theorem blk_mid (w : World) (o1 : Obj) (cs ds : Array Value) (t t' : TypeId) : Blk (((w.alloc o1).alloc (.cells cs t)).alloc (.cells ds t')) (w.heap.size + 1) t cs := by
  have := (Blk.new (w.alloc o1) t cs).alloc (.cells ds t')
  rwa [World.size_alloc] at this
theorem blk_two (w : World) (o1 : Obj) (cs : Array Value) (t : TypeId) : Blk ((w.alloc o1).alloc (.cells cs t)) (w.heap.size + 1) t cs := by
  have := Blk.new (w.alloc o1) t cs
  rwa [World.size_alloc] at this
theorem fin3 {w W w' : World} {o1 o2 o3 : Obj} (e : W = ((w.alloc o1).alloc o2).alloc o3) (h : Below W.heap.size W w') : Below w.heap.size w w' := by
  subst e
  exact ((((Below.refl _ w).alloc (Nat.le_refl _) _).alloc (by simp) _).alloc (by simp; omega) _).trans (h.mono (by simp; omega))
theorem tenB {w : World} {g : Nat} {t : TypeId} {v0 v1 v2 v3 v4 v5 v6 v7 v8 v9 : Value} (h : Blk w g t #[v0, v1, v2, v3, v4, v5, v6, v7, v8, v9]) :
    w.cell? ⟨g, 0, none⟩ = some v0 ∧ w.cell? ⟨g, 1, none⟩ = some v1 ∧ w.cell? ⟨g, 2, none⟩ = some v2 ∧ w.cell? ⟨g, 3, none⟩ = some v3 ∧ w.cell? ⟨g, 4, none⟩ = some v4 ∧ w.cell? ⟨g, 5, none⟩ = some v5 ∧ w.cell? ⟨g, 6, none⟩ = some v6 ∧ w.cell? ⟨g, 7, none⟩ = some v7 ∧ w.cell? ⟨g, 8, none⟩ = some v8 ∧ w.cell? ⟨g, 9, none⟩ = some v9 :=
  ⟨h.cell 0, h.cell 1, h.cell 2, h.cell 3, h.cell 4, h.cell 5, h.cell 6, h.cell 7, h.cell 8, h.cell 9⟩
section
variable (kd oc : Int) (f t u : ByteArray) (L H K : Option Addr) (nl cl nh ch nk ck : Nat) (b op under : Int) (w : World)
set_option maxRecDepth 100000 in
set_option maxHeartbeats 8000000 in
theorem own_345_0 (ho : occB under oc = true ∧ under = 8 ∧ 1 ≤ oc ∧ oc ≤ 4) (hk : kd = 3 ∨ kd = 4 ∨ kd = 5) (hf : f.size ≤ 140737488351232) :
    Calls Tryd.prog 22 #[.agg #[.int .i64 kd, .int .i64 oc, .string f, .string t, .string u, .slice L nl cl, .slice H nh ch, .int .i64 b, .int .i64 op, .slice K nk ck], .int .i64 under] w (AnsB (nameB f && emptyB ⟨#[]⟩ ⟨#[]⟩ u nl nh b op nk) w) := by
  have hmf : ∀ (fn : Fn) (first cap : Array Value) (w : World), (Instr.makeFunc fn first cap).run Tryd.prog w = .ok (.func fn first cap) w := fun _ _ _ _ => rfl
  have HE := Lib.hid (fun W => empty_any 0 0 ⟨#[]⟩ ⟨#[]⟩ u L H K nl cl nh ch nk ck b op W)
  generalize emptyB ⟨#[]⟩ ⟨#[]⟩ u nl nh b op nk = r at *
  have HN := Lib.hid (fun W => name_any f W hf)
  generalize nameB f = nb at *
  obtain ⟨_, h1, h2, h3⟩ := ho
  subst h1
  have d1 : decide (oc < 1) = false := decide_eq_false (by omega)
  have d2 : decide (4 < oc) = false := decide_eq_false (by omega)
  rcases hk with rfl | rfl | rfl
  all_goals
    go_enter Tryd.func22, Tryd.ntmps22
    go_wp2_with fail
    refine (named1 (w.heap.size + 1) (w.heap.size + 1 + 1) _ _ (blk_mid w _ _ _ _ _) rfl (by go_simp) (by omega)).mono ?_
    rintro e w1 ⟨rfl, rfl⟩
    go_wp2_with fail
    refine (HN.out _).mono ?_
    rintro e V ⟨rfl, hb⟩
    have HB := Lib.hid (fin3 rfl hb)
    have HZ := Lib.hid hb.size
    obtain ⟨c0, c1, c2, c3, c4, c5, c6, c7, c8, c9⟩ := tenB ((blk_mid w _ _ _ _ _).below hb (blk_mid w _ _ _ _ _).lt)
    clear hb
    cases nb
    · go_wp2_with fail
      go_ret
      exact ⟨by simp, HB.out⟩
    · go_wp2_with fail
      refine (HE.out _).mono ?_
      rintro e V2 ⟨rfl, hb⟩
      have HB2 := Lib.hid (HB.out.trans (hb.mono HB.out.size))
      clear hb c0 c1 c2 c3 c4 c5 c6 c7 c8 c9
      go_wp2_with fail
      go_ret
      exact ⟨by simp, HB2.out⟩
set_option maxRecDepth 100000 in
set_option maxHeartbeats 8000000 in
theorem own_345_1 (ho : occB under oc = true ∧ ¬ under = 8 ∧ oc = 0) (hk : kd = 3 ∨ kd = 4 ∨ kd = 5) (hf : f.size ≤ 140737488351232) :
    Calls Tryd.prog 22 #[.agg #[.int .i64 kd, .int .i64 oc, .string f, .string t, .string u, .slice L nl cl, .slice H nh ch, .int .i64 b, .int .i64 op, .slice K nk ck], .int .i64 under] w (AnsB (nameB f && emptyB ⟨#[]⟩ ⟨#[]⟩ u nl nh b op nk) w) := by
  have hmf : ∀ (fn : Fn) (first cap : Array Value) (w : World), (Instr.makeFunc fn first cap).run Tryd.prog w = .ok (.func fn first cap) w := fun _ _ _ _ => rfl
  have HE := Lib.hid (fun W => empty_any 0 0 ⟨#[]⟩ ⟨#[]⟩ u L H K nl cl nh ch nk ck b op W)
  generalize emptyB ⟨#[]⟩ ⟨#[]⟩ u nl nh b op nk = r at *
  have HN := Lib.hid (fun W => name_any f W hf)
  generalize nameB f = nb at *
  obtain ⟨_, h1, h2⟩ := ho
  subst h2
  have d1 : (under == 8) = false := by simpa using h1
  have d2 : (under != 8) = true := by simpa using h1
  rcases hk with rfl | rfl | rfl
  all_goals
    go_enter Tryd.func22, Tryd.ntmps22
    go_wp2_with fail
    refine (named1 (w.heap.size + 1) (w.heap.size + 1 + 1) _ _ (blk_mid w _ _ _ _ _) rfl (by go_simp) (by omega)).mono ?_
    rintro e w1 ⟨rfl, rfl⟩
    go_wp2_with fail
    refine (HN.out _).mono ?_
    rintro e V ⟨rfl, hb⟩
    have HB := Lib.hid (fin3 rfl hb)
    have HZ := Lib.hid hb.size
    obtain ⟨c0, c1, c2, c3, c4, c5, c6, c7, c8, c9⟩ := tenB ((blk_mid w _ _ _ _ _).below hb (blk_mid w _ _ _ _ _).lt)
    clear hb
    cases nb
    · go_wp2_with fail
      go_ret
      exact ⟨by simp, HB.out⟩
    · go_wp2_with fail
      refine (HE.out _).mono ?_
      rintro e V2 ⟨rfl, hb⟩
      have HB2 := Lib.hid (HB.out.trans (hb.mono HB.out.size))
      clear hb c0 c1 c2 c3 c4 c5 c6 c7 c8 c9
      go_wp2_with fail
      go_ret
      exact ⟨by simp, HB2.out⟩
set_option maxRecDepth 100000 in
set_option maxHeartbeats 8000000 in
theorem own_6_0 (ho : occB under oc = true ∧ under = 8 ∧ 1 ≤ oc ∧ oc ≤ 4) (hk : kd = 6) (hf : f.size ≤ 140737488351232) :
    Calls Tryd.prog 22 #[.agg #[.int .i64 kd, .int .i64 oc, .string f, .string t, .string u, .slice L nl cl, .slice H nh ch, .int .i64 b, .int .i64 op, .slice K nk ck], .int .i64 under] w (AnsB (nameB f && emptyB ⟨#[]⟩ ⟨#[]⟩ ⟨#[]⟩ nl nh b op nk) w) := by
  have hmf : ∀ (fn : Fn) (first cap : Array Value) (w : World), (Instr.makeFunc fn first cap).run Tryd.prog w = .ok (.func fn first cap) w := fun _ _ _ _ => rfl
  have HE := Lib.hid (fun W => empty_any 0 0 ⟨#[]⟩ ⟨#[]⟩ ⟨#[]⟩ L H K nl cl nh ch nk ck b op W)
  generalize emptyB ⟨#[]⟩ ⟨#[]⟩ ⟨#[]⟩ nl nh b op nk = r at *
  have HN := Lib.hid (fun W => name_any f W hf)
  generalize nameB f = nb at *
  obtain ⟨_, h1, h2, h3⟩ := ho
  subst h1
  have d1 : decide (oc < 1) = false := decide_eq_false (by omega)
  have d2 : decide (4 < oc) = false := decide_eq_false (by omega)
  subst hk
  all_goals
    go_enter Tryd.func22, Tryd.ntmps22
    go_wp2_with fail
    refine (named2 (w.heap.size + 1) (w.heap.size + 1 + 1) _ _ (blk_mid w _ _ _ _ _) rfl (by go_simp) (by go_simp) (by omega)).mono ?_
    rintro e w1 ⟨rfl, rfl⟩
    go_wp2_with fail
    refine (HN.out _).mono ?_
    rintro e V ⟨rfl, hb⟩
    have HB := Lib.hid (fin3 rfl hb)
    have HZ := Lib.hid hb.size
    obtain ⟨c0, c1, c2, c3, c4, c5, c6, c7, c8, c9⟩ := tenB ((blk_mid w _ _ _ _ _).below hb (blk_mid w _ _ _ _ _).lt)
    clear hb
    cases nb
    · go_wp2_with fail
      go_ret
      exact ⟨by simp, HB.out⟩
    · go_wp2_with fail
      refine (HE.out _).mono ?_
      rintro e V2 ⟨rfl, hb⟩
      have HB2 := Lib.hid (HB.out.trans (hb.mono HB.out.size))
      clear hb c0 c1 c2 c3 c4 c5 c6 c7 c8 c9
      go_wp2_with fail
      go_ret
      exact ⟨by simp, HB2.out⟩
set_option maxRecDepth 100000 in
set_option maxHeartbeats 8000000 in
theorem own_6_1 (ho : occB under oc = true ∧ ¬ under = 8 ∧ oc = 0) (hk : kd = 6) (hf : f.size ≤ 140737488351232) :
    Calls Tryd.prog 22 #[.agg #[.int .i64 kd, .int .i64 oc, .string f, .string t, .string u, .slice L nl cl, .slice H nh ch, .int .i64 b, .int .i64 op, .slice K nk ck], .int .i64 under] w (AnsB (nameB f && emptyB ⟨#[]⟩ ⟨#[]⟩ ⟨#[]⟩ nl nh b op nk) w) := by
  have hmf : ∀ (fn : Fn) (first cap : Array Value) (w : World), (Instr.makeFunc fn first cap).run Tryd.prog w = .ok (.func fn first cap) w := fun _ _ _ _ => rfl
  have HE := Lib.hid (fun W => empty_any 0 0 ⟨#[]⟩ ⟨#[]⟩ ⟨#[]⟩ L H K nl cl nh ch nk ck b op W)
  generalize emptyB ⟨#[]⟩ ⟨#[]⟩ ⟨#[]⟩ nl nh b op nk = r at *
  have HN := Lib.hid (fun W => name_any f W hf)
  generalize nameB f = nb at *
  obtain ⟨_, h1, h2⟩ := ho
  subst h2
  have d1 : (under == 8) = false := by simpa using h1
  have d2 : (under != 8) = true := by simpa using h1
  subst hk
  all_goals
    go_enter Tryd.func22, Tryd.ntmps22
    go_wp2_with fail
    refine (named2 (w.heap.size + 1) (w.heap.size + 1 + 1) _ _ (blk_mid w _ _ _ _ _) rfl (by go_simp) (by go_simp) (by omega)).mono ?_
    rintro e w1 ⟨rfl, rfl⟩
    go_wp2_with fail
    refine (HN.out _).mono ?_
    rintro e V ⟨rfl, hb⟩
    have HB := Lib.hid (fin3 rfl hb)
    have HZ := Lib.hid hb.size
    obtain ⟨c0, c1, c2, c3, c4, c5, c6, c7, c8, c9⟩ := tenB ((blk_mid w _ _ _ _ _).below hb (blk_mid w _ _ _ _ _).lt)
    clear hb
    cases nb
    · go_wp2_with fail
      go_ret
      exact ⟨by simp, HB.out⟩
    · go_wp2_with fail
      refine (HE.out _).mono ?_
      rintro e V2 ⟨rfl, hb⟩
      have HB2 := Lib.hid (HB.out.trans (hb.mono HB.out.size))
      clear hb c0 c1 c2 c3 c4 c5 c6 c7 c8 c9
      go_wp2_with fail
      go_ret
      exact ⟨by simp, HB2.out⟩
set_option maxRecDepth 100000 in
set_option maxHeartbeats 8000000 in
theorem own_8_0 (ho : occB under oc = true ∧ under = 8 ∧ 1 ≤ oc ∧ oc ≤ 4) (hk : kd = 8) :
    Calls Tryd.prog 22 #[.agg #[.int .i64 kd, .int .i64 oc, .string f, .string t, .string u, .slice L nl cl, .slice H nh ch, .int .i64 b, .int .i64 op, .slice K nk ck], .int .i64 under] w (AnsB (emptyB f t u nl nh b op 0) w) := by
  have hmf : ∀ (fn : Fn) (first cap : Array Value) (w : World), (Instr.makeFunc fn first cap).run Tryd.prog w = .ok (.func fn first cap) w := fun _ _ _ _ => rfl
  have HE := Lib.hid (fun W => empty_any 0 0 f t u L H none nl cl nh ch 0 0 b op W)
  generalize emptyB f t u nl nh b op 0 = r at *
  obtain ⟨_, h1, h2, h3⟩ := ho
  subst h1
  have d1 : decide (oc < 1) = false := decide_eq_false (by omega)
  have d2 : decide (4 < oc) = false := decide_eq_false (by omega)
  subst hk
  all_goals
    go_enter Tryd.func22, Tryd.ntmps22
    go_wp2_with fail
    refine (HE.out _).mono ?_
    rintro e V ⟨rfl, hb⟩
    have HB := Lib.hid (fin2 rfl hb)
    clear hb
    go_wp2_with fail
    go_ret
    exact ⟨rfl, HB.out⟩
set_option maxRecDepth 100000 in
set_option maxHeartbeats 8000000 in
theorem own_8_1 (ho : occB under oc = true ∧ ¬ under = 8 ∧ oc = 0) (hk : kd = 8) :
    Calls Tryd.prog 22 #[.agg #[.int .i64 kd, .int .i64 oc, .string f, .string t, .string u, .slice L nl cl, .slice H nh ch, .int .i64 b, .int .i64 op, .slice K nk ck], .int .i64 under] w (AnsB (emptyB f t u nl nh b op 0) w) := by
  have hmf : ∀ (fn : Fn) (first cap : Array Value) (w : World), (Instr.makeFunc fn first cap).run Tryd.prog w = .ok (.func fn first cap) w := fun _ _ _ _ => rfl
  have HE := Lib.hid (fun W => empty_any 0 0 f t u L H none nl cl nh ch 0 0 b op W)
  generalize emptyB f t u nl nh b op 0 = r at *
  obtain ⟨_, h1, h2⟩ := ho
  subst h2
  have d1 : (under == 8) = false := by simpa using h1
  have d2 : (under != 8) = true := by simpa using h1
  subst hk
  all_goals
    go_enter Tryd.func22, Tryd.ntmps22
    go_wp2_with fail
    refine (HE.out _).mono ?_
    rintro e V ⟨rfl, hb⟩
    have HB := Lib.hid (fin2 rfl hb)
    clear hb
    go_wp2_with fail
    go_ret
    exact ⟨rfl, HB.out⟩
end
end Go.Proofs.YtinmiekbhoemjaaDoor.Qry
