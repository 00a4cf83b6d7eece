/- Contracts: query.word, query.operation. Written by gen_words.py. -/
import Derived.Test.YtinmiekbhoemjaaDoorQryBuf
import Derived.Deep.Light
import Derived.WalkLawsBesides
import Derived.WalkSpells
set_option linter.unusedVariables false
namespace Go.Proofs.YtinmiekbhoemjaaDoor.Qry
open Go.RowKit Words Tree QryP Kit

/-- A text is answered, nothing else. -/
def StrQ (s : ByteArray) (w : World) (e : Ending) (w' : World) : Prop := e = .returned (.string s) ∧ w = w'
set_option maxRecDepth 100000 in
set_option maxHeartbeats 4000000 in
theorem word_any (k : Int) (w : World) (hk : 1 ≤ k ∧ k ≤ 10) : Calls Tryd.prog 41 #[.int .i64 k] w (StrQ (str (wordF k)) w) := by
  have : k = 1 ∨ k = 2 ∨ k = 3 ∨ k = 4 ∨ k = 5 ∨ k = 6 ∨ k = 7 ∨ k = 8 ∨ k = 9 ∨ k = 10 := by omega
  rcases this with rfl | rfl | rfl | rfl | rfl | rfl | rfl | rfl | rfl | rfl
  · clear hk
    have hi : ∀ w, (Instr.index 86 (.agg #[.string ⟨#[]⟩, .string ⟨#[97, 108, 108]⟩, .string ⟨#[110, 111, 110, 101]⟩, .string ⟨#[116, 101, 114, 109]⟩, .string ⟨#[112, 104, 114, 97, 115, 101]⟩, .string ⟨#[112, 114, 101, 102, 105, 120]⟩, .string ⟨#[116, 101, 114, 109, 115]⟩, .string ⟨#[114, 97, 110, 103, 101]⟩, .string ⟨#[98, 111, 111, 108]⟩, .string ⟨#[98, 111, 111, 115, 116]⟩, .string ⟨#[119, 101, 105, 103, 104]⟩]) (.int .i64 1)).run Tryd.prog w = .ok (.string ⟨#[97, 108, 108]⟩) w := fun _ => by kernel_rfl
    go_enter Tryd.func41, Tryd.ntmps41
    go_wp2_with fail
    go_ret
    exact ⟨rfl, rfl⟩
  · clear hk
    have hi : ∀ w, (Instr.index 86 (.agg #[.string ⟨#[]⟩, .string ⟨#[97, 108, 108]⟩, .string ⟨#[110, 111, 110, 101]⟩, .string ⟨#[116, 101, 114, 109]⟩, .string ⟨#[112, 104, 114, 97, 115, 101]⟩, .string ⟨#[112, 114, 101, 102, 105, 120]⟩, .string ⟨#[116, 101, 114, 109, 115]⟩, .string ⟨#[114, 97, 110, 103, 101]⟩, .string ⟨#[98, 111, 111, 108]⟩, .string ⟨#[98, 111, 111, 115, 116]⟩, .string ⟨#[119, 101, 105, 103, 104]⟩]) (.int .i64 2)).run Tryd.prog w = .ok (.string ⟨#[110, 111, 110, 101]⟩) w := fun _ => by kernel_rfl
    go_enter Tryd.func41, Tryd.ntmps41
    go_wp2_with fail
    go_ret
    exact ⟨rfl, rfl⟩
  · clear hk
    have hi : ∀ w, (Instr.index 86 (.agg #[.string ⟨#[]⟩, .string ⟨#[97, 108, 108]⟩, .string ⟨#[110, 111, 110, 101]⟩, .string ⟨#[116, 101, 114, 109]⟩, .string ⟨#[112, 104, 114, 97, 115, 101]⟩, .string ⟨#[112, 114, 101, 102, 105, 120]⟩, .string ⟨#[116, 101, 114, 109, 115]⟩, .string ⟨#[114, 97, 110, 103, 101]⟩, .string ⟨#[98, 111, 111, 108]⟩, .string ⟨#[98, 111, 111, 115, 116]⟩, .string ⟨#[119, 101, 105, 103, 104]⟩]) (.int .i64 3)).run Tryd.prog w = .ok (.string ⟨#[116, 101, 114, 109]⟩) w := fun _ => by kernel_rfl
    go_enter Tryd.func41, Tryd.ntmps41
    go_wp2_with fail
    go_ret
    exact ⟨rfl, rfl⟩
  · clear hk
    have hi : ∀ w, (Instr.index 86 (.agg #[.string ⟨#[]⟩, .string ⟨#[97, 108, 108]⟩, .string ⟨#[110, 111, 110, 101]⟩, .string ⟨#[116, 101, 114, 109]⟩, .string ⟨#[112, 104, 114, 97, 115, 101]⟩, .string ⟨#[112, 114, 101, 102, 105, 120]⟩, .string ⟨#[116, 101, 114, 109, 115]⟩, .string ⟨#[114, 97, 110, 103, 101]⟩, .string ⟨#[98, 111, 111, 108]⟩, .string ⟨#[98, 111, 111, 115, 116]⟩, .string ⟨#[119, 101, 105, 103, 104]⟩]) (.int .i64 4)).run Tryd.prog w = .ok (.string ⟨#[112, 104, 114, 97, 115, 101]⟩) w := fun _ => by kernel_rfl
    go_enter Tryd.func41, Tryd.ntmps41
    go_wp2_with fail
    go_ret
    exact ⟨rfl, rfl⟩
  · clear hk
    have hi : ∀ w, (Instr.index 86 (.agg #[.string ⟨#[]⟩, .string ⟨#[97, 108, 108]⟩, .string ⟨#[110, 111, 110, 101]⟩, .string ⟨#[116, 101, 114, 109]⟩, .string ⟨#[112, 104, 114, 97, 115, 101]⟩, .string ⟨#[112, 114, 101, 102, 105, 120]⟩, .string ⟨#[116, 101, 114, 109, 115]⟩, .string ⟨#[114, 97, 110, 103, 101]⟩, .string ⟨#[98, 111, 111, 108]⟩, .string ⟨#[98, 111, 111, 115, 116]⟩, .string ⟨#[119, 101, 105, 103, 104]⟩]) (.int .i64 5)).run Tryd.prog w = .ok (.string ⟨#[112, 114, 101, 102, 105, 120]⟩) w := fun _ => by kernel_rfl
    go_enter Tryd.func41, Tryd.ntmps41
    go_wp2_with fail
    go_ret
    exact ⟨rfl, rfl⟩
  · clear hk
    have hi : ∀ w, (Instr.index 86 (.agg #[.string ⟨#[]⟩, .string ⟨#[97, 108, 108]⟩, .string ⟨#[110, 111, 110, 101]⟩, .string ⟨#[116, 101, 114, 109]⟩, .string ⟨#[112, 104, 114, 97, 115, 101]⟩, .string ⟨#[112, 114, 101, 102, 105, 120]⟩, .string ⟨#[116, 101, 114, 109, 115]⟩, .string ⟨#[114, 97, 110, 103, 101]⟩, .string ⟨#[98, 111, 111, 108]⟩, .string ⟨#[98, 111, 111, 115, 116]⟩, .string ⟨#[119, 101, 105, 103, 104]⟩]) (.int .i64 6)).run Tryd.prog w = .ok (.string ⟨#[116, 101, 114, 109, 115]⟩) w := fun _ => by kernel_rfl
    go_enter Tryd.func41, Tryd.ntmps41
    go_wp2_with fail
    go_ret
    exact ⟨rfl, rfl⟩
  · clear hk
    have hi : ∀ w, (Instr.index 86 (.agg #[.string ⟨#[]⟩, .string ⟨#[97, 108, 108]⟩, .string ⟨#[110, 111, 110, 101]⟩, .string ⟨#[116, 101, 114, 109]⟩, .string ⟨#[112, 104, 114, 97, 115, 101]⟩, .string ⟨#[112, 114, 101, 102, 105, 120]⟩, .string ⟨#[116, 101, 114, 109, 115]⟩, .string ⟨#[114, 97, 110, 103, 101]⟩, .string ⟨#[98, 111, 111, 108]⟩, .string ⟨#[98, 111, 111, 115, 116]⟩, .string ⟨#[119, 101, 105, 103, 104]⟩]) (.int .i64 7)).run Tryd.prog w = .ok (.string ⟨#[114, 97, 110, 103, 101]⟩) w := fun _ => by kernel_rfl
    go_enter Tryd.func41, Tryd.ntmps41
    go_wp2_with fail
    go_ret
    exact ⟨rfl, rfl⟩
  · clear hk
    have hi : ∀ w, (Instr.index 86 (.agg #[.string ⟨#[]⟩, .string ⟨#[97, 108, 108]⟩, .string ⟨#[110, 111, 110, 101]⟩, .string ⟨#[116, 101, 114, 109]⟩, .string ⟨#[112, 104, 114, 97, 115, 101]⟩, .string ⟨#[112, 114, 101, 102, 105, 120]⟩, .string ⟨#[116, 101, 114, 109, 115]⟩, .string ⟨#[114, 97, 110, 103, 101]⟩, .string ⟨#[98, 111, 111, 108]⟩, .string ⟨#[98, 111, 111, 115, 116]⟩, .string ⟨#[119, 101, 105, 103, 104]⟩]) (.int .i64 8)).run Tryd.prog w = .ok (.string ⟨#[98, 111, 111, 108]⟩) w := fun _ => by kernel_rfl
    go_enter Tryd.func41, Tryd.ntmps41
    go_wp2_with fail
    go_ret
    exact ⟨rfl, rfl⟩
  · clear hk
    have hi : ∀ w, (Instr.index 86 (.agg #[.string ⟨#[]⟩, .string ⟨#[97, 108, 108]⟩, .string ⟨#[110, 111, 110, 101]⟩, .string ⟨#[116, 101, 114, 109]⟩, .string ⟨#[112, 104, 114, 97, 115, 101]⟩, .string ⟨#[112, 114, 101, 102, 105, 120]⟩, .string ⟨#[116, 101, 114, 109, 115]⟩, .string ⟨#[114, 97, 110, 103, 101]⟩, .string ⟨#[98, 111, 111, 108]⟩, .string ⟨#[98, 111, 111, 115, 116]⟩, .string ⟨#[119, 101, 105, 103, 104]⟩]) (.int .i64 9)).run Tryd.prog w = .ok (.string ⟨#[98, 111, 111, 115, 116]⟩) w := fun _ => by kernel_rfl
    go_enter Tryd.func41, Tryd.ntmps41
    go_wp2_with fail
    go_ret
    exact ⟨rfl, rfl⟩
  · clear hk
    have hi : ∀ w, (Instr.index 86 (.agg #[.string ⟨#[]⟩, .string ⟨#[97, 108, 108]⟩, .string ⟨#[110, 111, 110, 101]⟩, .string ⟨#[116, 101, 114, 109]⟩, .string ⟨#[112, 104, 114, 97, 115, 101]⟩, .string ⟨#[112, 114, 101, 102, 105, 120]⟩, .string ⟨#[116, 101, 114, 109, 115]⟩, .string ⟨#[114, 97, 110, 103, 101]⟩, .string ⟨#[98, 111, 111, 108]⟩, .string ⟨#[98, 111, 111, 115, 116]⟩, .string ⟨#[119, 101, 105, 103, 104]⟩]) (.int .i64 10)).run Tryd.prog w = .ok (.string ⟨#[119, 101, 105, 103, 104]⟩) w := fun _ => by kernel_rfl
    go_enter Tryd.func41, Tryd.ntmps41
    go_wp2_with fail
    go_ret
    exact ⟨rfl, rfl⟩
set_option maxRecDepth 100000 in
set_option maxHeartbeats 4000000 in
theorem op_any (k : Int) (w : World) (hk : 1 ≤ k ∧ k ≤ 3) : Calls Tryd.prog 47 #[.int .i64 k] w (StrQ (str (opF k)) w) := by
  have : k = 1 ∨ k = 2 ∨ k = 3 := by omega
  rcases this with rfl | rfl | rfl
  · clear hk
    have hi : ∀ w, (Instr.index 88 (.agg #[.string ⟨#[]⟩, .string ⟨#[97, 100, 100]⟩, .string ⟨#[109, 117, 108]⟩, .string ⟨#[109, 97, 120]⟩]) (.int .i64 1)).run Tryd.prog w = .ok (.string ⟨#[97, 100, 100]⟩) w := fun _ => by kernel_rfl
    go_enter Tryd.func47, Tryd.ntmps47
    go_wp2_with fail
    go_ret
    exact ⟨rfl, rfl⟩
  · clear hk
    have hi : ∀ w, (Instr.index 88 (.agg #[.string ⟨#[]⟩, .string ⟨#[97, 100, 100]⟩, .string ⟨#[109, 117, 108]⟩, .string ⟨#[109, 97, 120]⟩]) (.int .i64 2)).run Tryd.prog w = .ok (.string ⟨#[109, 117, 108]⟩) w := fun _ => by kernel_rfl
    go_enter Tryd.func47, Tryd.ntmps47
    go_wp2_with fail
    go_ret
    exact ⟨rfl, rfl⟩
  · clear hk
    have hi : ∀ w, (Instr.index 88 (.agg #[.string ⟨#[]⟩, .string ⟨#[97, 100, 100]⟩, .string ⟨#[109, 117, 108]⟩, .string ⟨#[109, 97, 120]⟩]) (.int .i64 3)).run Tryd.prog w = .ok (.string ⟨#[109, 97, 120]⟩) w := fun _ => by kernel_rfl
    go_enter Tryd.func47, Tryd.ntmps47
    go_wp2_with fail
    go_ret
    exact ⟨rfl, rfl⟩
end Go.Proofs.YtinmiekbhoemjaaDoor.Qry
