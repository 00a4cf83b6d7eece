/- Contracts: a rune's form, in the program and in the document's answer. Contracts: 'Put' of the program and of the document's answer. Contracts: 'Next' of the program and of the document's answer, at every text and place. -/
import Derived.Test.YtfckomjbgopmaaaGreatDoorFoldAmong
import Derived.Test.YtfckomjbgopmaaaGreatDoorShelf
import Derived.Test.YtfckomjbgopmaaaGreatDoorPack4
import Derived.Lib.Strings
import Derived.Deep.Draws
section
namespace Go.Proofs.YtfckomjbgopmaaaGreatDoor.FoldForms
open Go.RowKit Go.Lib FoldP FoldInts Kit

set_option maxHeartbeats 1000000 in
theorem refRune_any (r : Int) (w : World) :
    Calls Tryz.prog 147 #[.int .i32 r] w (BoolRet (Lib.validRune r) w) := by
  go_enter Tryz.func147, Tryz.ntmps147
  go_wp2
  all_goals go_ret
  all_goals go_light
  all_goals refine ⟨ret_bool ?_, rfl⟩
  · unfold Lib.validRune; rw [Bool.eq_iff_iff]; simp; omega
  · unfold Lib.validRune; rw [Bool.eq_iff_iff]; simp; omega
  · unfold Lib.validRune; rw [Bool.eq_iff_iff]; simp; omega
  · unfold Lib.validRune; rw [Bool.eq_iff_iff]; simp; omega

/-- New memory is a row of bytes; nothing older has changed. -/
def RowNew (l : List UInt8) (w : World) (e : Ending) (w' : World) : Prop :=
  ∃ v, e = .returned v ∧ w'.ownsRow w.heap.size 5 1 v l.length (byteCells l) ∧ Below w.heap.size w w'

theorem rowNew_mk (w : World) (l : List UInt8) (C : Array Value) (n : Nat) (hn : n = l.length) (hC : C = (byteCells l).toArray) (hl : l.length ≤ 4) :
    RowNew l w (.returned (.slice (some ⟨w.heap.size, 0, none⟩) n n)) (w.alloc (.cells C 5)) := by
  subst hn; subst hC
  exact ⟨_, rfl, own_new w _ _ l (Nat.le_refl _) (by unfold maxLen; omega), (Below.refl _ _).alloc (Nat.le_refl _) _⟩

theorem cells_form (r : Int) : (byteCells (encodeRune r)).toArray = ((encodeRuneZ r).map (Value.int .u8)).toArray := by
  rw [byteCells_encodeRune]; rfl

set_option maxHeartbeats 1000000 in
theorem refForm_any (r : Int) (w : World) (h : Lib.validRune r = true) :
    Calls Tryz.prog 148 #[.int .i32 r] w (RowNew (encodeRune r) w) := by
  have hv : (0 ≤ r ∧ r < 0xD800) ∨ (0xDFFF < r ∧ r ≤ 0x10FFFF) := of_decide_eq_true h
  clear h
  have b0 : 0 ≤ r := by omega
  have b1 : r ≤ 0x10FFFF := by omega
  have hl : (encodeRune r).length ≤ 4 := by have := encodeRuneZ_length r; simp [encodeRune]; omega
  have HV := Lib.hid hv; clear hv
  have HL := Lib.hid hl; clear hl
  by_cases h1 : r < 128
  · go_enter Tryz.func148, Tryz.ntmps148
    go_wp2
    go_ret
    go_light
    refine rowNew_mk w _ _ _ ?_ ?_ HL.out
    · rw [encodeRune, encodeRuneZ_one (by omega) (by omega)]; rfl
    · rw [cells_form, encodeRuneZ_one (by omega) (by omega)]; rfl
  by_cases h2 : r < 2048
  · go_enter Tryz.func148, Tryz.ntmps148
    go_wp2
    go_ret
    go_light
    refine rowNew_mk w _ _ _ ?_ ?_ HL.out
    · rw [encodeRune, encodeRuneZ_two (by omega) (by omega)]; rfl
    · rw [cells_form, encodeRuneZ_two (by omega) (by omega)]; rfl
  by_cases h3 : r < 65536
  · go_enter Tryz.func148, Tryz.ntmps148
    go_wp2
    go_ret
    go_light
    refine rowNew_mk w _ _ _ ?_ ?_ HL.out
    · rw [encodeRune, encodeRuneZ_three (by have := HV.out; omega)]; rfl
    · rw [cells_form, encodeRuneZ_three (by have := HV.out; omega)]; rfl
  · go_enter Tryz.func148, Tryz.ntmps148
    go_wp2
    go_ret
    go_light
    refine rowNew_mk w _ _ _ ?_ ?_ HL.out
    · rw [encodeRune, encodeRuneZ_four (by omega) (by omega)]; rfl
    · rw [cells_form, encodeRuneZ_four (by omega) (by omega)]; rfl
end Go.Proofs.YtfckomjbgopmaaaGreatDoor.FoldForms
end
section
namespace Go.Proofs.YtfckomjbgopmaaaGreatDoor.FoldPut
open Go.RowKit Go.Lib FoldP FoldInts Kit FoldForms

end Go.Proofs.YtfckomjbgopmaaaGreatDoor.FoldPut
end
section
set_option linter.unusedVariables false
namespace Go.Proofs.YtfckomjbgopmaaaGreatDoor.FoldNext
open Go.RowKit Go.Lib FoldP FoldInts Kit FoldForms

theorem below_drewN {B : Nat} {a w : World} (h : Below B a w) (n : Nat) : Below B a (w.drewN n) := ⟨h.os, h.tape, h.output, h.size, h.block⟩

/-- The decoder's two tables, as their texts lay them. -/
def Tabs (w : World) : Prop := Lib.Utf8Tabs 6 7 w ∧ 8 ≤ w.heap.size
theorem Tabs.below {B : Nat} {w w' : World} (h : Tabs w) (hb : Below B w w') (hB : 8 ≤ B) : Tabs w' :=
  ⟨⟨fun c hc => (hb.cell (p := ⟨6, c, none⟩) (Nat.lt_of_lt_of_le (by show (_ : Nat) < 8; dsimp only; omega) hB)).trans (h.1.1 c hc),
    fun i hi => ⟨(hb.cell (p := ⟨7, 2 * i, none⟩) (Nat.lt_of_lt_of_le (by show (_ : Nat) < 8; dsimp only; omega) hB)).trans (h.1.2 i hi).1, (hb.cell (p := ⟨7, 2 * i + 1, none⟩) (Nat.lt_of_lt_of_le (by show (_ : Nat) < 8; dsimp only; omega) hB)).trans (h.1.2 i hi).2⟩⟩,
   Nat.le_trans h.2 hb.size⟩
theorem Tabs.next {w w' : World} (h : Tabs w) (hb : Below w.heap.size w w') : Tabs w' := h.below hb h.2

def NextRet (l : List UInt8) (at_ : Int) (w : World) (e : Ending) (w' : World) : Prop :=
  e = .returned (.tuple #[.int .i32 (nextF l at_).1, .int .i64 (nextF l at_).2]) ∧ Below w.heap.size w w'

theorem next_out {l : List UInt8} {at_ : Int} (h : ¬ (0 ≤ at_ ∧ at_ < l.length)) : nextF l at_ = (0, 0) := if_neg h
theorem next_in (l : List UInt8) (k : Nat) (h : k < l.length) : nextF l k = (((decodeL (l.drop k)).1 : Int), ((decodeL (l.drop k)).2 : Int)) := by
  unfold nextF; rw [if_pos (by omega), Int.toNat_natCast]

theorem next_mk_out {l : List UInt8} {at_ : Int} {w w' : World} (h : ¬ (0 ≤ at_ ∧ at_ < l.length)) (hb : Below w.heap.size w w') : NextRet l at_ w (.returned (.tuple #[.int .i32 0, .int .i64 0])) w' :=
  ⟨by rw [next_out h], hb⟩

theorem decodeGo_drop (s : ByteArray) (k : Nat) (h : k < s.size) : Lib.decodeGo (s.extract k s.size) = decodeL (s.data.toList.drop k) := by
  unfold decodeGo
  have hsz : (s.extract k s.size).size = s.size - k := by simp
  rw [if_neg (by omega)]
  have := decodeL_drop (s.extract k s.size) 0
  rw [← this, List.drop_zero, extract_data, List.take_of_length_le (by simp)]

set_option maxHeartbeats 1000000 in
theorem next_any (s : ByteArray) (at_ : Int) (w : World) (hs : s.size ≤ maxLen) (hT : Tabs w) :
    Calls Tryz.prog 144 #[.string s, .int .i64 at_] w (NextRet s.data.toList at_ w) := by
  unfold maxLen at hs
  have hlen : s.data.toList.length = s.size := by simp
  have HL := Lib.hid hlen; clear hlen
  have HT := Lib.hid hT; clear hT
  by_cases h0 : at_ < 0
  · go_enter Tryz.func144, Tryz.ntmps144
    go_wp2_with fail
    go_ret2
    exact next_mk_out (by omega) (Below.refl _ _)
  · obtain ⟨k, rfl⟩ : ∃ k : Nat, at_ = k := ⟨at_.toNat, by omega⟩
    by_cases h1 : k < s.size
    · go_enter Tryz.func144, Tryz.ntmps144
      go_wp2_with fail
      refine (Tryz.utf8_DecodeRuneInString _ _ HT.out.1).mono ?_
      rintro e w1 ⟨rfl, hb⟩
      have HB := Lib.hid hb; clear hb
      go_wp2_with fail
      go_ret2
      refine ⟨?_, HB.out⟩
      rw [next_in _ k (by rw [HL.out]; exact h1), ← decodeGo_drop s k h1]
      rfl
    · go_enter Tryz.func144, Tryz.ntmps144
      go_wp2_with fail
      go_ret2
      exact next_mk_out (by rw [HL.out]; omega) (Below.refl _ _)
end Go.Proofs.YtfckomjbgopmaaaGreatDoor.FoldNext
end
