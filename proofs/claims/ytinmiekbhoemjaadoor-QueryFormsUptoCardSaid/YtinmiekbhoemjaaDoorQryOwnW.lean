/- Contract: query.own, a kind at a time. -/
import Derived.Test.YtinmiekbhoemjaaDoorPack24
set_option linter.unusedVariables false
namespace Go.Proofs.YtinmiekbhoemjaaDoor.Qry
open Go.RowKit Words Tree QryP Kit Sch

/-- Whether a part occurs as it must. -/
def occB (under oc : Int) : Bool := if under = 8 then decide (1 ≤ oc ∧ oc ≤ 4) else decide (oc = 0)
theorem occ_cases (under oc : Int) : (occB under oc = true ∧ under = 8 ∧ 1 ≤ oc ∧ oc ≤ 4) ∨ (occB under oc = true ∧ ¬ under = 8 ∧ oc = 0) ∨ (occB under oc = false ∧ under = 8 ∧ oc < 1) ∨ (occB under oc = false ∧ under = 8 ∧ 4 < oc) ∨ (occB under oc = false ∧ ¬ under = 8 ∧ ¬ oc = 0) := by
  unfold occB
  by_cases h : under = 8
  · rw [if_pos h]
    by_cases h1 : 1 ≤ oc
    · by_cases h2 : oc ≤ 4
      · exact .inl ⟨decide_eq_true ⟨h1, h2⟩, h, h1, h2⟩
      · exact .inr (.inr (.inr (.inl ⟨decide_eq_false (fun x => h2 x.2), h, by omega⟩)))
    · exact .inr (.inr (.inl ⟨decide_eq_false (fun x => h1 x.1), h, by omega⟩))
  · rw [if_neg h]
    by_cases h1 : oc = 0
    · exact .inr (.inl ⟨decide_eq_true h1, h, h1⟩)
    · exact .inr (.inr (.inr (.inr ⟨decide_eq_false h1, h, h1⟩)))
theorem fin2 {w W w' : World} {o1 o2 : Obj} (e : W = (w.alloc o1).alloc o2) (h : Below W.heap.size W w') : Below w.heap.size w w' := by
  subst e
  exact (((Below.refl _ w).alloc (Nat.le_refl _) _).alloc (by simp) _).trans (h.mono (by simp; omega))
section
variable (kd oc : Int) (f t u : ByteArray) (L H K : Option Addr) (nl cl nh ch nk ck : Nat) (b op under : Int) (w : World)
set_option maxRecDepth 100000 in
set_option maxHeartbeats 4000000 in
theorem own_occ (ho : occB under oc = false) :
    Calls Tryd.prog 22 #[.agg #[.int .i64 kd, .int .i64 oc, .string f, .string t, .string u, .slice L nl cl, .slice H nh ch, .int .i64 b, .int .i64 op, .slice K nk ck], .int .i64 under] w (AnsB false w) := by
  rcases occ_cases under oc with ⟨h, _⟩ | ⟨h, _⟩ | ⟨_, h1, h2⟩ | ⟨_, h1, h2⟩ | ⟨_, h1, h2⟩
  · rw [h] at ho; cases ho
  · rw [h] at ho; cases ho
  · subst h1
    have d1 : decide (oc < 1) = true := decide_eq_true h2
    clear ho
    go_enter Tryd.func22, Tryd.ntmps22
    go_wp2_with fail
    go_ret
    exact ⟨rfl, (Below.refl _ w).alloc (Nat.le_refl _) _⟩
  · subst h1
    have d1 : decide (oc < 1) = false := decide_eq_false (by omega)
    have d2 : decide (4 < oc) = true := decide_eq_true h2
    clear ho
    go_enter Tryd.func22, Tryd.ntmps22
    go_wp2_with fail
    go_ret
    exact ⟨rfl, (Below.refl _ w).alloc (Nat.le_refl _) _⟩
  · have d1 : (under == 8) = false := by simpa using h1
    have d2 : (under != 8) = true := by simpa using h1
    have d3 : (oc != 0) = true := by simpa using h2
    clear ho
    go_enter Tryd.func22, Tryd.ntmps22
    go_wp2_with fail
    go_ret
    exact ⟨rfl, (Below.refl _ w).alloc (Nat.le_refl _) _⟩
set_option maxRecDepth 100000 in
set_option maxHeartbeats 4000000 in
theorem own_12 (ho : occB under oc = true) (hk : kd = 1 ∨ kd = 2) :
    Calls Tryd.prog 22 #[.agg #[.int .i64 kd, .int .i64 oc, .string f, .string t, .string u, .slice L nl cl, .slice H nh ch, .int .i64 b, .int .i64 op, .slice K nk ck], .int .i64 under] w (AnsB (emptyB f t u nl nh b op nk) w) := by
  have hmf : ∀ (fn : Fn) (first cap : Array Value) (w : World), (Instr.makeFunc fn first cap).run Tryd.prog w = .ok (.func fn first cap) w := fun _ _ _ _ => rfl
  have HE := Lib.hid (fun W => empty_any 0 0 f t u L H K nl cl nh ch nk ck b op W)
  generalize emptyB f t u nl nh b op nk = r at *
  rcases occ_cases under oc with ⟨_, h1, h2, h3⟩ | ⟨_, h1, h2⟩ | ⟨h, _⟩ | ⟨h, _⟩ | ⟨h, _⟩
  · subst h1
    have d1 : decide (oc < 1) = false := decide_eq_false (by omega)
    have d2 : decide (4 < oc) = false := decide_eq_false (by omega)
    clear ho
    rcases hk with rfl | rfl
    all_goals
      go_enter Tryd.func22, Tryd.ntmps22
      go_wp2_with fail
      refine (HE.out _).mono ?_
      rintro e w' ⟨rfl, hb⟩
      have HB := Lib.hid (fin2 rfl hb)
      clear hb
      go_wp2_with fail
      go_ret
      exact ⟨rfl, HB.out⟩
  · subst h2
    have d1 : (under == 8) = false := by simpa using h1
    have d2 : (under != 8) = true := by simpa using h1
    clear ho
    rcases hk with rfl | rfl
    all_goals
      go_enter Tryd.func22, Tryd.ntmps22
      go_wp2_with fail
      refine (HE.out _).mono ?_
      rintro e w' ⟨rfl, hb⟩
      have HB := Lib.hid (fin2 rfl hb)
      clear hb
      go_wp2_with fail
      go_ret
      exact ⟨rfl, HB.out⟩
  all_goals (rw [h] at ho; cases ho)
end
end Go.Proofs.YtinmiekbhoemjaaDoor.Qry
