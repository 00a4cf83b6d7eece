/- Contracts: a rune's form, in the program and in the document's answer. -/
import Derived.Test.YtfbedonphhiolaaDoorFoldAmong
import Derived.Test.YtfbedonphhiolaaDoorShelf
namespace Go.Proofs.YtfbedonphhiolaaDoor.FoldForms
open Go.RowKit Go.Lib FoldP FoldInts Kit

set_option maxHeartbeats 1000000 in
theorem refRune_any (r : Int) (w : World) :
    Calls Tryd.prog 71 #[.int .i32 r] w (BoolRet (Lib.validRune r) w) := by
  go_enter Tryd.func71, Tryd.ntmps71
  go_wp2
  all_goals go_ret
  all_goals go_light
  all_goals refine ⟨ret_bool ?_, rfl⟩
  · unfold Lib.validRune; rw [Bool.eq_iff_iff]; simp; omega
  · unfold Lib.validRune; rw [Bool.eq_iff_iff]; simp; omega
  · unfold Lib.validRune; rw [Bool.eq_iff_iff]; simp; omega
  · unfold Lib.validRune; rw [Bool.eq_iff_iff]; simp; omega

/-- New memory is a row of bytes; nothing older has changed. -/
def RowNew (l : List UInt8) (w : World) (e : Ending) (w' : World) : Prop :=
  ∃ v, e = .returned v ∧ w'.ownsRow w.heap.size 5 1 v l.length (byteCells l) ∧ Below w.heap.size w w'

theorem rowNew_mk (w : World) (l : List UInt8) (C : Array Value) (n : Nat) (hn : n = l.length) (hC : C = (byteCells l).toArray) (hl : l.length ≤ 4) :
    RowNew l w (.returned (.slice (some ⟨w.heap.size, 0, none⟩) n n)) (w.alloc (.cells C 5)) := by
  subst hn; subst hC
  exact ⟨_, rfl, own_new w _ _ l (Nat.le_refl _) (by unfold maxLen; omega), (Below.refl _ _).alloc (Nat.le_refl _) _⟩

theorem cells_form (r : Int) : (byteCells (encodeRune r)).toArray = ((encodeRuneZ r).map (Value.int .u8)).toArray := by
  rw [byteCells_encodeRune]; rfl

set_option maxHeartbeats 1000000 in
theorem refForm_any (r : Int) (w : World) (h : Lib.validRune r = true) :
    Calls Tryd.prog 56 #[.int .i32 r] w (RowNew (encodeRune r) w) := by
  have hv : (0 ≤ r ∧ r < 0xD800) ∨ (0xDFFF < r ∧ r ≤ 0x10FFFF) := of_decide_eq_true h
  clear h
  have b0 : 0 ≤ r := by omega
  have b1 : r ≤ 0x10FFFF := by omega
  have hl : (encodeRune r).length ≤ 4 := by have := encodeRuneZ_length r; simp [encodeRune]; omega
  have HV := Lib.hid hv; clear hv
  have HL := Lib.hid hl; clear hl
  by_cases h1 : r < 128
  · go_enter Tryd.func56, Tryd.ntmps56
    go_wp2
    go_ret
    go_light
    refine rowNew_mk w _ _ _ ?_ ?_ HL.out
    · rw [encodeRune, encodeRuneZ_one (by omega) (by omega)]; rfl
    · rw [cells_form, encodeRuneZ_one (by omega) (by omega)]; rfl
  by_cases h2 : r < 2048
  · go_enter Tryd.func56, Tryd.ntmps56
    go_wp2
    go_ret
    go_light
    refine rowNew_mk w _ _ _ ?_ ?_ HL.out
    · rw [encodeRune, encodeRuneZ_two (by omega) (by omega)]; rfl
    · rw [cells_form, encodeRuneZ_two (by omega) (by omega)]; rfl
  by_cases h3 : r < 65536
  · go_enter Tryd.func56, Tryd.ntmps56
    go_wp2
    go_ret
    go_light
    refine rowNew_mk w _ _ _ ?_ ?_ HL.out
    · rw [encodeRune, encodeRuneZ_three (by have := HV.out; omega)]; rfl
    · rw [cells_form, encodeRuneZ_three (by have := HV.out; omega)]; rfl
  · go_enter Tryd.func56, Tryd.ntmps56
    go_wp2
    go_ret
    go_light
    refine rowNew_mk w _ _ _ ?_ ?_ HL.out
    · rw [encodeRune, encodeRuneZ_four (by omega) (by omega)]; rfl
    · rw [cells_form, encodeRuneZ_four (by omega) (by omega)]; rfl
end Go.Proofs.YtfbedonphhiolaaDoor.FoldForms
