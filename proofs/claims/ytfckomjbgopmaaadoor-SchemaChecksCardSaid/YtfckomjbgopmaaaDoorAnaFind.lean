/- Contracts: a filter's number: the program's find, the document's Filter. -/
import Derived.Test.YtfckomjbgopmaaaDoorProg
import Derived.Test.YtfckomjbgopmaaaDoorAnaRunP
import Derived.Test.YtfckomjbgopmaaaDoorKit
import Derived.Test.YtfckomjbgopmaaaDoorWords
import Derived.BigGuardPart
import Derived.Outline
set_option linter.unusedVariables false
namespace Go.Proofs.YtfckomjbgopmaaaDoor.Ana
open Go.RowKit Go.Lib AnaP Words Kit

def PureB (b : Bool) (w : World) (e : Ending) (w' : World) : Prop := e = .returned (.bool b) ∧ w = w'

set_option maxRecDepth 100000 in
theorem filter_any (n : Int) (w : World) : Calls Tryd.prog 31 #[.int .i64 n] w (PureB (filterB n) w) := by
  obtain ⟨b, hb⟩ : ∃ b, filterB n = b := ⟨_, rfl⟩
  rw [hb]
  have HR := Lib.hid hb; clear hb
  go_enter Tryd.func31, Tryd.ntmps31
  go_wp2
  all_goals go_ret
  all_goals (refine ⟨ret_bool ?_, rfl⟩; rw [← HR.out]; unfold filterB; simp_all; try omega)

theorem eql_nilF (w : World) : (binOp .eql 64 .nilFunc .nilFunc).run Tryd.prog w = .ok (.bool true) w := by rfl
theorem eql_fnF (F : Nat) (cap : Array Value) (w : World) : (binOp .eql 64 (.func (.func F) #[] cap) .nilFunc).run Tryd.prog w = .ok (.bool false) w := by rfl
theorem grams_any (n : Int) (w : World) : Calls Tryd.prog 39 #[.int .i64 n] w fun e w' => e = .returned (.func (.func 45) #[] #[.pointer (some ⟨w.heap.size, 0, none⟩)]) ∧ w' = w.alloc (.cells #[.int .i64 n] 3) := by
  have hmf : ∀ (fn : Fn) (first cap : Array Value) (w : World), (Instr.makeFunc fn first cap).run Tryd.prog w = .ok (.func fn first cap) w := fun _ _ _ _ => rfl
  go_enter Tryd.func39, Tryd.ntmps39
  go_wp2_with fail
  go_ret
  exact ⟨rfl, rfl⟩
theorem find_none (n : Int) (w : World) (h : filterB n = false) : Calls Tryd.prog 35 #[.int .i64 n] w fun e w' => e = .returned .nilFunc ∧ w = w' := by
  have h0 : ¬ (10 ≤ n ∧ n ≤ 15) := by unfold filterB at h; simpa using h
  have h1 : (n == 10) = false := by rw [beq_eq_false_iff_ne]; omega
  have h2 : (n == 11) = false := by rw [beq_eq_false_iff_ne]; omega
  have h3 : (n == 12) = false := by rw [beq_eq_false_iff_ne]; omega
  have h4 : (n == 13) = false := by rw [beq_eq_false_iff_ne]; omega
  have h5 : (n == 14) = false := by rw [beq_eq_false_iff_ne]; omega
  have h6 : (n == 15) = false := by rw [beq_eq_false_iff_ne]; omega
  clear h h0
  go_enter Tryd.func35, Tryd.ntmps35
  go_wp2_with fail
  go_ret
  exact ⟨rfl, rfl⟩

theorem find_10 (w : World) : Calls Tryd.prog 35 #[.int .i64 10] w fun e w' => e = .returned (.func (.func 37) #[] #[]) ∧ w = w' := by
  go_enter Tryd.func35, Tryd.ntmps35
  go_wp2_with fail
  go_ret
  exact ⟨rfl, rfl⟩
theorem find_11 (w : World) : Calls Tryd.prog 35 #[.int .i64 11] w fun e w' => e = .returned (.func (.func 38) #[] #[]) ∧ w = w' := by
  go_enter Tryd.func35, Tryd.ntmps35
  go_wp2_with fail
  go_ret
  exact ⟨rfl, rfl⟩
theorem find_12 (w : World) : Calls Tryd.prog 35 #[.int .i64 12] w fun e w' => e = .returned (.func (.func 45) #[] #[.pointer (some ⟨w.heap.size, 0, none⟩)]) ∧ w' = w.alloc (.cells #[.int .i64 2] 3) := by
  go_enter Tryd.func35, Tryd.ntmps35
  go_wp2_with fail
  refine (grams_any _ _).mono ?_
  rintro e w' ⟨rfl, rfl⟩
  go_wp2_with fail
  go_ret
  exact ⟨rfl, rfl⟩
theorem find_13 (w : World) : Calls Tryd.prog 35 #[.int .i64 13] w fun e w' => e = .returned (.func (.func 45) #[] #[.pointer (some ⟨w.heap.size, 0, none⟩)]) ∧ w' = w.alloc (.cells #[.int .i64 3] 3) := by
  go_enter Tryd.func35, Tryd.ntmps35
  go_wp2_with fail
  refine (grams_any _ _).mono ?_
  rintro e w' ⟨rfl, rfl⟩
  go_wp2_with fail
  go_ret
  exact ⟨rfl, rfl⟩
theorem find_14 (w : World) : Calls Tryd.prog 35 #[.int .i64 14] w fun e w' => e = .returned (.func (.func 40) #[] #[]) ∧ w = w' := by
  go_enter Tryd.func35, Tryd.ntmps35
  go_wp2_with fail
  go_ret
  exact ⟨rfl, rfl⟩
theorem find_15 (w : World) : Calls Tryd.prog 35 #[.int .i64 15] w fun e w' => e = .returned (.func (.func 41) #[] #[]) ∧ w = w' := by
  go_enter Tryd.func35, Tryd.ntmps35
  go_wp2_with fail
  go_ret
  exact ⟨rfl, rfl⟩

end Go.Proofs.YtfckomjbgopmaaaDoor.Ana
