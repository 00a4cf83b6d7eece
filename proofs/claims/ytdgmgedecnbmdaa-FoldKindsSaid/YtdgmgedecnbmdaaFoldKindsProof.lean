/- PROVED: 'lecternlaw05.FoldKinds' returns true for every int32, and leaves its argument as it was. No condition. The program's Put, Lower, Letter, Digit and Mark answer what the document's answers do. -/
import Derived.Test.YtdgmgedecnbmdaaRows
import Derived.Test.YtdgmgedecnbmdaaFoldPut
import Derived.ProofKit
import Derived.OpenShut
import Derived.Test.YtdgmgedecnbmdaaWords
namespace Go.Proofs.Ytdgmgedecnbmdaa.foldKinds
open Go.ChangeShapes Go.WideShapes Go.ChangeAt Go.RowKit FoldP FoldInts FoldAmong FoldForms FoldPut Kit Words

theorem own : ownKnob Try.prog.godebug = none := by kernel_rfl

def TrueBelow (w : World) (e : Ending) (w' : World) : Prop := e = .returned (.bool true) ∧ Below w.heap.size w w'

set_option maxHeartbeats 1000000 in
theorem walk (a0 : Int) (w0 : (Lit.int .i32 a0).wf = true) (w : World) :
    Calls Try.prog 3 #[.int .i32 a0] w (TrueBelow w) := by
  obtain ⟨h0, h1⟩ := bounds_i32 w0
  go_enter Try.func3, Try.ntmps3
  go_wp2_with fail
  refine (put_any a0 h0 h1 _).mono ?_
  rintro e w1 ⟨rfl, hb⟩
  have B1 := Lib.hid hb; clear hb
  go_wp2_with fail
  refine (refPut_any a0 _).mono ?_
  rintro e w2 ⟨rfl, hb⟩
  have B2 := Lib.hid hb; clear hb
  go_wp2_with fail
  refine (lower_any a0 _).mono ?_
  rintro e w' ⟨rfl, rfl⟩
  go_wp2_with fail
  refine (refLower_any a0 _).mono ?_
  rintro e w3 ⟨rfl, hb⟩
  have B3 := Lib.hid hb; clear hb
  go_wp2_with fail
  refine (letter_any a0 _).mono ?_
  rintro e w' ⟨rfl, rfl⟩
  go_wp2_with fail
  refine (refLetter_any a0 _).mono ?_
  rintro e w4 ⟨rfl, hb⟩
  have B4 := Lib.hid hb; clear hb
  go_wp2_with fail
  refine (digit_any a0 _).mono ?_
  rintro e w' ⟨rfl, rfl⟩
  go_wp2_with fail
  refine (refDigit_any a0 _).mono ?_
  rintro e w5 ⟨rfl, hb⟩
  have B5 := Lib.hid hb; clear hb
  go_wp2_with fail
  refine (mark_any a0 _).mono ?_
  rintro e w' ⟨rfl, rfl⟩
  go_wp2_with fail
  refine (refMark_any a0 _).mono ?_
  rintro e w6 ⟨rfl, hb⟩
  have B6 := Lib.hid hb; clear hb
  go_wp2_with fail
  go_ret
  go_light
  refine ⟨by simp, ?_⟩
  have s1 := B1.out.size
  have s2 := B2.out.size
  have s3 := B3.out.size
  have s4 := B4.out.size
  have s5 := B5.out.size
  exact (((((B1.out.trans (B2.out.mono (by omega))).trans (B3.out.mono (by omega))).trans (B4.out.mono (by omega))).trans (B5.out.mono (by omega))).trans (B6.out.mono (by omega)))

/-! ### The row's step -/
set_option maxRecDepth 100000 in
theorem lifted (os : Os) (started : os.Started) (H : Type) (enc : TypeId × Value → H) :
    ReturnsInHanded {} Try.checked os 3 .any (Rows.foldKindsSpec.pre6 enc Try.prog Try.f3 Rows.foldKindsRow.domain false) (Rows.foldKindsSpec.post enc Try.prog Try.f3 false true false false) := by
  refine returnsInHanded_of_change (C := Try.checked) own started (by kernel_rfl) Try.func3
    (ChangeSpec.witness6 (enc := enc) (C := Try.checked) false ⟨#[], #[.int .i32 0], []⟩ 8 (by kernel_rfl) (by kernel_rfl) (by kernel_rfl) (by kernel_rfl)) ?_
  intro W base args ds gs before hval0 hW hcnd _
  have hval : ∀ (j : Nat) t v, Try.f3.params[j]? = some t → args[j]? = some v → Value.okWide Try.prog W .any base t v := hval0
  have hW' := hW
  obtain ⟨p, q, hA0, hV, rfl, hfz, hnd⟩ := hW
  have hA : DataW.TrodAll enc Try.prog W 0 (fun _ => true) true Try.f3.params.toList args.toList ds p := hA0
  rw [Try.params3] at hA hval
  obtain ⟨v0, vs0, d0, ds0, p0, q0, hargs, rfl, rfl, h0, r0⟩ := trodAll_cons hA
  obtain ⟨rfl, rfl, rfl⟩ := trodAll_nil r0
  obtain rfl : args = #[v0] := by cases args; simp_all
  obtain ⟨rfl, rfl⟩ := trodVars_none hV
  obtain ⟨a0, rfl, rfl, rfl, w0⟩ := open_int Try.underlying21 (hval 0 21 v0 rfl rfl) h0
  clear hA0 hval0
  simp only [List.append_nil] at hW'
  refine (walk a0 w0 W).mono fun e W' ⟨he, hg⟩ => ?_
  subst he
  exact ⟨_, rfl, post_of_below (pa := []) (pv := []) hW' (fun _ _ _ => (trodAll_cons_mk (shut_bool Try.underlying4 _) trodAll_mk0)) (fun sp _ => (trodAll_cons_mk (shut_int Try.underlying21 w0) trodAll_mk0)) (fun _ _ => rfl) rfl
    hg (ok_one (by kernel_rfl) rfl (okWide_bool_mk Try.underlying4 _))⟩

theorem over : Rows.foldKindsRow.holds Try.pinned (OpenSpec.ofChange Rows.foldKindsSpec) :=
  OpenClaim.holds_of_wide 3 Try.f3 rfl rfl rfl rfl rfl rfl rfl ⟨rfl, rfl, rfl, rfl, rfl⟩ rfl rfl rfl rfl rfl (by kernel_rfl) Try.func3 (by kernel_rfl)
    (of_decide_eq_true (by kernel_rfl)) (by unfold Func.isWrapper; first | (rw [if_pos (by decide +kernel)]; kernel_rfl) | (rw [if_neg (by decide +kernel)]; exact ⟨rfl, rfl⟩))
    (fun os started H enc _ => lifted os started H enc)

/-- THE STATEMENT. -/
theorem proved : Rows.FoldKindsSaid :=
  over
end Go.Proofs.Ytdgmgedecnbmdaa.foldKinds
