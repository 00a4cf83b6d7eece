/- Contracts: the document's answers of layer 7: a decimal read, digit by digit. -/
import Derived.Test.YtebagmiclfhelaaDoorChecked
import Derived.Test.YtebagmiclfhelaaDoorKit
import Derived.Test.YtebagmiclfhelaaDoorWords
import Derived.Test.YtebagmiclfhelaaDoorOwn
import Derived.Test.YtebagmiclfhelaaDoorOrdT
import Derived.WalkKit
import Derived.LoopTactic
import Derived.OwnWalk
import Derived.Deep.DeepCutAuto
set_option linter.unusedVariables false
namespace Go.Proofs.YtebagmiclfhelaaDoor.OrdRef
open Go.RowKit Go.Lib OrdP Kit Words Owned

theorem infoU8 : (Tryd.prog.info? 5).map (fun i => (i.zero, i.size, i.bytes)) = some (some (.int .u8 0), 1, 1) := by kernel_rfl

def decN (l : List UInt8) (scale : Int) : Int := if scale < 0 ∨ 9 < scale then 0 else (decF l scale.toNat).getD 0
def decE (l : List UInt8) (scale : Int) : Int := if scale < 0 ∨ 9 < scale then 1 else if (decF l scale.toNat).isSome then 0 else 70
def DecRet (l : List UInt8) (scale : Int) (w : World) (e : Ending) (w' : World) : Prop := e = .returned (.tuple #[.int .i64 (decN l scale), .int .i64 (decE l scale)]) ∧ Below w.heap.size w w'
theorem dec_out {l : List UInt8} {scale : Int} {w w' : World} (h : scale < 0 ∨ 9 < scale) (hb : Below w.heap.size w w') : DecRet l scale w (.returned (.tuple #[.int .i64 0, .int .i64 1])) w' :=
  ⟨by unfold decN decE; rw [if_pos h, if_pos h], hb⟩
theorem dec_none {l : List UInt8} {sc : Nat} {w w' : World} (h : sc ≤ 9) (hd : decF l sc = none) (hb : Below w.heap.size w w') : DecRet l sc w (.returned (.tuple #[.int .i64 0, .int .i64 70])) w' :=
  ⟨by unfold decN decE; rw [if_neg (by omega), if_neg (by omega), Int.toNat_natCast, hd]; rfl, hb⟩
theorem dec_some {l : List UInt8} {sc : Nat} {n : Int} {w w' : World} (h : sc ≤ 9) (hd : decF l sc = some n) (hb : Below w.heap.size w w') : DecRet l sc w (.returned (.tuple #[.int .i64 n, .int .i64 0])) w' :=
  ⟨by unfold decN decE; rw [if_neg (by omega), if_neg (by omega), Int.toNat_natCast, hd]; rfl, hb⟩

theorem digit_any (c : UInt8) (w : World) : Calls Tryd.prog 38 #[.int .u8 c.toNat] w (fun e w' => e = .returned (.bool (digB c)) ∧ w = w') := by
  have hc := c.toNat_lt
  unfold digB
  by_cases h1 : 48 ≤ c.toNat
  · have b1 : decide ((48 : Int) ≤ (c.toNat : Int)) = true := by rw [decide_eq_true_eq]; omega
    by_cases h2 : c.toNat ≤ 57
    · have b2 : decide ((c.toNat : Int) ≤ 57) = true := by rw [decide_eq_true_eq]; omega
      go_enter Tryd.func38, Tryd.ntmps38
      go_wp2_with fail
      go_ret
      exact ⟨by simp [h1, h2], rfl⟩
    · have b2 : decide ((c.toNat : Int) ≤ 57) = false := by rw [decide_eq_false_iff_not]; omega
      go_enter Tryd.func38, Tryd.ntmps38
      go_wp2_with fail
      go_ret
      exact ⟨by simp [h1, h2], rfl⟩
  · have b1 : decide ((48 : Int) ≤ (c.toNat : Int)) = false := by rw [decide_eq_false_iff_not]; omega
    go_enter Tryd.func38, Tryd.ntmps38
    go_wp2_with fail
    go_ret
    exact ⟨by simp [h1], rfl⟩
theorem digit_yes (c : UInt8) (w : World) (h : digB c = true) : Calls Tryd.prog 38 #[.int .u8 c.toNat] w (fun e w' => e = .returned (.bool true) ∧ w = w') := by
  have := digit_any c w; rw [h] at this; exact this
theorem digit_no (c : UInt8) (w : World) (h : digB c = false) : Calls Tryd.prog 38 #[.int .u8 c.toNat] w (fun e w' => e = .returned (.bool false) ∧ w = w') := by
  have := digit_any c w; rw [h] at this; exact this
end Go.Proofs.YtebagmiclfhelaaDoor.OrdRef
