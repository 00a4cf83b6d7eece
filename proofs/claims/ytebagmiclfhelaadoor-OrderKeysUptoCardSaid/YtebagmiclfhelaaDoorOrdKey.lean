/- Contracts: keys compared, and whether a key is right, of the program. -/
import Derived.Test.YtebagmiclfhelaaDoorOrdText
import Derived.StillTailTactics
import Derived.Laws.StructEq
import Derived.Outline
set_option linter.unusedVariables false
namespace OrdP
open Go.Lib Go

/-- A key. -/
structure KeyD where
  kind : Int
  num : Int
  text : ByteArray
def KeyD.v (k : KeyD) : Value := .agg #[.int .i64 k.kind, .int .i64 k.num, .string k.text]
def KeyD.cells (k : KeyD) : List Value := [.int .i64 k.kind, .int .i64 k.num, .string k.text]
def rightF (k : KeyD) : Bool := (decide (k.kind = 0) && decide (k.num = 0) && decide (k.text.size = 0)) || (decide (k.kind = 1) && decide (k.text.size = 0)) || (decide (k.kind = 2) && decide (k.num = 0))
def cmpZ (a b : Int) : Int := if a < b then -1 else if b < a then 1 else 0
def cmpB : List UInt8 → List UInt8 → Int
  | [], [] => 0
  | [], _ :: _ => -1
  | _ :: _, [] => 1
  | a :: l, b :: r => if a < b then -1 else if b < a then 1 else cmpB l r
def cmpF (a b : KeyD) : Int := if cmpZ a.kind b.kind ≠ 0 then cmpZ a.kind b.kind else if cmpZ a.num b.num ≠ 0 then cmpZ a.num b.num else cmpB a.text.data.toList b.text.data.toList
end OrdP
namespace Go.Proofs.YtebagmiclfhelaaDoor.OrdLib
open Go.RowKit Go.Lib OrdP Kit OrdRef

def IntB (n : Int) (w : World) (e : Ending) (w' : World) : Prop := e = .returned (.int .i64 n) ∧ Below w.heap.size w w'

set_option maxRecDepth 100000 in
theorem right_any (k : KeyD) (w : World) : Calls Tryd.prog 22 #[k.v] w (BoolB (rightF k) w) := by
  obtain ⟨kd, nm, tx⟩ := k
  unfold KeyD.v
  dsimp only
  obtain ⟨r, hr⟩ : ∃ r, rightF ⟨kd, nm, tx⟩ = r := ⟨_, rfl⟩
  rw [hr]
  have HR := Lib.hid hr
  clear hr
  have hte : tx.size = 0 ∨ (tx.toList.isEmpty = false ∧ ¬ tx.size = 0) := by
    by_cases h : tx.size = 0
    · exact .inl h
    · right
      refine ⟨?_, h⟩
      cases hl : tx.toList.isEmpty with
      | false => rfl
      | true =>
        rw [List.isEmpty_iff] at hl
        have hl2 := congrArg List.length hl
        rw [ByteArray.toList_eq] at hl2
        have hl3 : tx.data.toList.length = tx.size := by simp
        exact (h (by rw [← hl3, hl2]; rfl)).elim
  by_cases h0 : kd = 0
  · subst h0
    by_cases h1 : nm = 0
    · subst h1
      rcases hte with h2 | ⟨h2, h3⟩
      · obtain rfl : tx = ⟨#[]⟩ := by apply ByteArray.ext; exact Array.eq_empty_of_size_eq_zero h2
        clear h2
        go_enter Tryd.func22, Tryd.ntmps22
        go_wp2_with fail
        go_ret
        exact ⟨ret_bool (by rw [← HR.out]; first | decide | (simp [rightF]; done) | (simp [rightF]; rfl)), (Below.refl _ _).alloc (Nat.le_refl _) _⟩
      · have H3 := Lib.hid h3
        clear h3
        go_enter Tryd.func22, Tryd.ntmps22
        go_wp2_with fail
        go_ret
        exact ⟨ret_bool (by rw [← HR.out]; first | decide | (simp [rightF, H3.out]; done)), (Below.refl _ _).alloc (Nat.le_refl _) _⟩
    · have n1 : (nm == 0) = false := by rw [beq_eq_false_iff_ne]; exact h1
      have H1 := Lib.hid h1
      clear h1 hte
      go_enter Tryd.func22, Tryd.ntmps22
      go_wp2_with fail
      go_ret
      exact ⟨ret_bool (by rw [← HR.out]; first | decide | (simp [rightF, H1.out]; done)), (Below.refl _ _).alloc (Nat.le_refl _) _⟩
  by_cases h1 : kd = 1
  · subst h1
    clear h0
    rcases hte with h2 | ⟨h2, h3⟩
    · obtain rfl : tx = ⟨#[]⟩ := by apply ByteArray.ext; exact Array.eq_empty_of_size_eq_zero h2
      clear h2
      go_enter Tryd.func22, Tryd.ntmps22
      go_wp2_with fail
      go_ret
      exact ⟨ret_bool (by rw [← HR.out]; first | decide | (simp [rightF]; done) | (simp [rightF]; rfl)), (Below.refl _ _).alloc (Nat.le_refl _) _⟩
    · have H3 := Lib.hid h3
      clear h3
      go_enter Tryd.func22, Tryd.ntmps22
      go_wp2_with fail
      go_ret
      exact ⟨ret_bool (by rw [← HR.out]; first | decide | (simp [rightF, H3.out]; done)), (Below.refl _ _).alloc (Nat.le_refl _) _⟩
  by_cases h2 : kd = 2
  · subst h2
    clear h0 h1 hte
    by_cases h1 : nm = 0
    · subst h1
      go_enter Tryd.func22, Tryd.ntmps22
      go_wp2_with fail
      go_ret
      exact ⟨ret_bool (by rw [← HR.out]; first | decide | (simp [rightF]; done) | (simp [rightF]; rfl)), (Below.refl _ _).alloc (Nat.le_refl _) _⟩
    · have n1 : (nm == 0) = false := by rw [beq_eq_false_iff_ne]; exact h1
      have H1 := Lib.hid h1
      clear h1
      go_enter Tryd.func22, Tryd.ntmps22
      go_wp2_with fail
      go_ret
      exact ⟨ret_bool (by rw [← HR.out]; first | decide | (simp [rightF, H1.out]; done)), (Below.refl _ _).alloc (Nat.le_refl _) _⟩
  · have k0 : (kd == 0) = false := by rw [beq_eq_false_iff_ne]; exact h0
    have k1 : (kd == 1) = false := by rw [beq_eq_false_iff_ne]; exact h1
    have k2 : (kd == 2) = false := by rw [beq_eq_false_iff_ne]; exact h2
    have H0 := Lib.hid h0
    have H1 := Lib.hid h1
    have H2 := Lib.hid h2
    clear h0 h1 h2 hte
    go_enter Tryd.func22, Tryd.ntmps22
    go_wp2_with fail
    go_ret
    exact ⟨ret_bool (by rw [← HR.out]; first | decide | (simp [rightF, H0.out, H1.out, H2.out]; done)), (Below.refl _ _).alloc (Nat.le_refl _) _⟩
end Go.Proofs.YtebagmiclfhelaaDoor.OrdLib
