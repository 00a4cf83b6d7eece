/- Contract: awake of lecternlaw07. -/
import Derived.Test.YtebagmiclfhelaaDoorOrdAwake
set_option linter.unusedVariables false
namespace Go.Proofs.YtebagmiclfhelaaDoor.OrdLib
open Go.RowKit Go.Lib OrdP Kit OrdRef Words Owned

theorem aw1 : decN (ByteArray.mk #[49, 50, 46, 53]).data.toList 2 = 1250 := by decide
theorem aw2 : decE (ByteArray.mk #[49, 50, 46, 53]).data.toList 2 = 0 := by decide
theorem aw3 : decN (ByteArray.mk #[48, 49]).data.toList 2 = 0 := by decide
theorem aw4 : decE (ByteArray.mk #[48, 49]).data.toList 2 = 70 := by decide
theorem aw5 : str (txtS (-7) 2) = ByteArray.mk #[45, 48, 46, 48, 55] := by first | decide | kernel_rfl
theorem aw6 : txtE 2 = 0 := by decide
theorem aw7 : rowB [⟨2, 0, ByteArray.mk #[97, 0]⟩] = [2, 97, 0, 255, 0, 1] := by decide
theorem aw8 : rightF ⟨2, 0, ByteArray.mk #[97, 0]⟩ = true := by decide
theorem aw9 : cmpF ⟨0, 0, ByteArray.mk #[]⟩ ⟨1, 0, ByteArray.mk #[]⟩ = -1 := by decide

set_option maxRecDepth 100000 in
theorem awake_any (w : World) (hT : OTabs w) : Calls Tryd.prog 13 #[] w (BoolB true w) := by
  have HT := Lib.hid hT; clear hT
  go_enter Tryd.func13, Tryd.ntmps13
  go_wp2_with fail
  refine (decimal_true _ 2 1250 w (by decide) HT.out aw1 aw2).mono ?_
  rintro e w1 ⟨rfl, b1⟩
  have t1 := HT.out.next b1
  have B1 := Lib.hid b1; have T1 := Lib.hid t1; clear b1 t1
  go_wp2_with fail
  refine (none_true _ 2 w1 (by decide) T1.out aw3 aw4).mono ?_
  rintro e w2 ⟨rfl, b2⟩
  have t2 := T1.out.next b2
  have B2 := Lib.hid (B1.out.trans (b2.mono B1.out.size)); have T2 := Lib.hid t2; clear b2 t2
  go_wp2_with fail
  refine (text_true (-7) 2 _ w2 (by decide) (by decide) T2.out aw5 aw6).mono ?_
  rintro e w3 ⟨rfl, b3⟩
  have B3 := Lib.hid (B2.out.trans (b3.mono B2.out.size)); clear b3
  go_wp2_with fail
  refine (bytes_true 2 0 ⟨#[97, 0]⟩ _ 6 6 [2, 97, 0, 255, 0, 1] _ rfl (by simp) (fun j hj => ?_) (by decide) aw8 aw7).mono ?_
  · rw [World.cell?_alloc_new]
    have : j = 0 ∨ j = 1 ∨ j = 2 ∨ j = 3 ∨ j = 4 ∨ j = 5 := by simp at hj; omega
    rcases this with rfl | rfl | rfl | rfl | rfl | rfl <;> rfl
  rintro e w4 ⟨rfl, b4⟩
  have B4 := Lib.hid ((B3.out.alloc B3.out.size _).trans (b4.mono (by have := B3.out.size; simp; omega))); clear b4
  go_wp2_with fail
  have h := compare_any ⟨0, 0, ByteArray.mk #[]⟩ ⟨1, 0, ByteArray.mk #[]⟩ w4
  rw [aw9] at h
  refine h.mono ?_
  clear h
  rintro e w5 ⟨rfl, b5⟩
  have B5 := Lib.hid (B4.out.trans (b5.mono B4.out.size)); clear b5
  go_wp2_with fail
  go_ret
  exact ⟨ret_bool (by simp), B5.out⟩
end Go.Proofs.YtebagmiclfhelaaDoor.OrdLib
