/- Keys go in an order: plain Lean. -/
import Derived.Test.YtebagmiclfhelaaDoorOrdCmp
namespace OrdP
open Go.Lib Go

theorem cmpZ_range (a b : Int) : cmpZ a b = -1 ∨ cmpZ a b = 0 ∨ cmpZ a b = 1 := by
  unfold cmpZ
  by_cases h : a < b
  · rw [if_pos h]; exact .inl rfl
  · rw [if_neg h]
    by_cases h2 : b < a
    · rw [if_pos h2]; exact .inr (.inr rfl)
    · rw [if_neg h2]; exact .inr (.inl rfl)
theorem cmpZ_lt {a b : Int} (h : a < b) : cmpZ a b = -1 := by unfold cmpZ; rw [if_pos h]
theorem cmpZ_gt {a b : Int} (h : b < a) : cmpZ a b = 1 := by unfold cmpZ; rw [if_neg (by omega), if_pos h]
theorem cmpZ_self (a : Int) : cmpZ a a = 0 := by unfold cmpZ; rw [if_neg (by omega), if_neg (by omega)]
theorem cmpB_range : ∀ a b : List UInt8, cmpB a b = -1 ∨ cmpB a b = 0 ∨ cmpB a b = 1
  | [], [] => .inr (.inl rfl)
  | [], _ :: _ => .inl rfl
  | _ :: _, [] => .inr (.inr rfl)
  | x :: a, y :: b => by
    unfold cmpB
    by_cases h : x < y
    · rw [if_pos h]; exact .inl rfl
    · rw [if_neg h]
      by_cases h2 : y < x
      · rw [if_pos h2]; exact .inr (.inr rfl)
      · rw [if_neg h2]; exact cmpB_range a b
theorem u8_tri (x y : UInt8) : x < y ∨ x = y ∨ y < x := by
  rw [UInt8.lt_iff_toNat_lt, UInt8.lt_iff_toNat_lt, ← UInt8.toNat_inj]; omega
theorem u8_asymm {x y : UInt8} (h : x < y) : ¬ y < x := by
  rw [UInt8.lt_iff_toNat_lt] at *; omega
theorem u8_trans {x y z : UInt8} (h : x < y) (h2 : y < z) : x < z := by
  rw [UInt8.lt_iff_toNat_lt] at *; omega
theorem cmpB_cons_lt {x y : UInt8} (a b : List UInt8) (h : x < y) : cmpB (x :: a) (y :: b) = -1 := by
  rw [cmpB, if_pos h]
theorem cmpB_cons_gt {x y : UInt8} (a b : List UInt8) (h : y < x) : cmpB (x :: a) (y :: b) = 1 := by
  rw [cmpB, if_neg (u8_asymm h), if_pos h]
theorem cmpB_cons_eq (x : UInt8) (a b : List UInt8) : cmpB (x :: a) (x :: b) = cmpB a b := by
  rw [cmpB, if_neg (UInt8.lt_irrefl x), if_neg (UInt8.lt_irrefl x)]
theorem cmpB_anti : ∀ a b : List UInt8, cmpB b a = -cmpB a b
  | [], [] => rfl
  | [], _ :: _ => rfl
  | _ :: _, [] => rfl
  | x :: a, y :: b => by
    rcases u8_tri x y with h | rfl | h
    · rw [cmpB_cons_lt _ _ h, cmpB_cons_gt _ _ h]; rfl
    · rw [cmpB_cons_eq, cmpB_cons_eq]; exact cmpB_anti a b
    · rw [cmpB_cons_lt _ _ h, cmpB_cons_gt _ _ h]
theorem cmpB_zero : ∀ a b : List UInt8, cmpB a b = 0 → a = b
  | [], [], _ => rfl
  | [], _ :: _, h => by cases h
  | _ :: _, [], h => by cases h
  | x :: a, y :: b, h => by
    rcases u8_tri x y with h1 | rfl | h1
    · rw [cmpB_cons_lt _ _ h1] at h; cases h
    · rw [cmpB_cons_eq] at h; rw [cmpB_zero a b h]
    · rw [cmpB_cons_gt _ _ h1] at h; cases h
theorem cmpB_trans : ∀ a b c : List UInt8, cmpB a b < 0 → cmpB b c ≤ 0 → cmpB a c < 0
  | [], [], _, h, _ => by simp [cmpB] at h
  | [], _ :: _, [], _, h => by simp [cmpB] at h
  | [], _ :: _, _ :: _, _, _ => by simp [cmpB]
  | _ :: _, [], _, h, _ => by simp [cmpB] at h
  | _ :: _, _ :: _, [], _, h => by simp [cmpB] at h
  | x :: a, y :: b, z :: c, h1, h2 => by
    rcases u8_tri x y with h3 | rfl | h3
    · rcases u8_tri y z with h4 | rfl | h4
      · rw [cmpB_cons_lt _ _ (u8_trans h3 h4)]; decide
      · rw [cmpB_cons_lt _ _ h3]; decide
      · rw [cmpB_cons_gt _ _ h4] at h2; exact absurd h2 (by decide)
    · rcases u8_tri x z with h4 | rfl | h4
      · rw [cmpB_cons_lt _ _ h4]; decide
      · rw [cmpB_cons_eq] at h1 h2 ⊢; exact cmpB_trans a b c h1 h2
      · rw [cmpB_cons_gt _ _ h4] at h2; exact absurd h2 (by decide)
    · rw [cmpB_cons_gt _ _ h3] at h1; exact absurd h1 (by decide)

theorem cmpF_kind_lt {a b : KeyD} (h : a.kind < b.kind) : cmpF a b = -1 := by unfold cmpF; rw [cmpZ_lt h]; rfl
theorem cmpF_kind_gt {a b : KeyD} (h : b.kind < a.kind) : cmpF a b = 1 := by unfold cmpF; rw [cmpZ_gt h]; rfl
theorem cmpF_num_lt {a b : KeyD} (h : a.kind = b.kind) (h1 : a.num < b.num) : cmpF a b = -1 := by unfold cmpF; rw [h, cmpZ_self, cmpZ_lt h1]; rfl
theorem cmpF_num_gt {a b : KeyD} (h : a.kind = b.kind) (h1 : b.num < a.num) : cmpF a b = 1 := by unfold cmpF; rw [h, cmpZ_self, cmpZ_gt h1]; rfl
theorem cmpF_text {a b : KeyD} (h : a.kind = b.kind) (h1 : a.num = b.num) : cmpF a b = cmpB a.text.data.toList b.text.data.toList := by unfold cmpF; rw [h, cmpZ_self, h1, cmpZ_self]; rfl
theorem int_tri (a b : Int) : a < b ∨ a = b ∨ b < a := by omega
theorem cmpF_range (a b : KeyD) : cmpF a b = -1 ∨ cmpF a b = 0 ∨ cmpF a b = 1 := by
  rcases int_tri a.kind b.kind with h | h | h
  · exact .inl (cmpF_kind_lt h)
  · rcases int_tri a.num b.num with h1 | h1 | h1
    · exact .inl (cmpF_num_lt h h1)
    · rw [cmpF_text h h1]; exact cmpB_range _ _
    · exact .inr (.inr (cmpF_num_gt h h1))
  · exact .inr (.inr (cmpF_kind_gt h))
theorem cmpF_anti (a b : KeyD) : cmpF b a = -cmpF a b := by
  rcases int_tri a.kind b.kind with h | h | h
  · rw [cmpF_kind_lt h, cmpF_kind_gt h]; rfl
  · rcases int_tri a.num b.num with h1 | h1 | h1
    · rw [cmpF_num_lt h h1, cmpF_num_gt h.symm h1]; rfl
    · rw [cmpF_text h h1, cmpF_text h.symm h1.symm]; exact cmpB_anti _ _
    · rw [cmpF_num_gt h h1, cmpF_num_lt h.symm h1]
  · rw [cmpF_kind_gt h, cmpF_kind_lt h]
theorem cmpF_zero {a b : KeyD} (h : cmpF a b = 0) : a = b := by
  rcases int_tri a.kind b.kind with h1 | h1 | h1
  · rw [cmpF_kind_lt h1] at h; cases h
  · rcases int_tri a.num b.num with h2 | h2 | h2
    · rw [cmpF_num_lt h1 h2] at h; cases h
    · rw [cmpF_text h1 h2] at h
      have := cmpB_zero _ _ h
      cases a; cases b
      dsimp only at *
      subst h1 h2
      congr 1
      exact ByteArray.ext (Array.toList_inj.1 this)
    · rw [cmpF_num_gt h1 h2] at h; cases h
  · rw [cmpF_kind_gt h1] at h; cases h
theorem cmpF_self (a : KeyD) : cmpF a a = 0 := by rw [cmpF_text rfl rfl]; exact cmpB_eq _
theorem cmpF_lt_le (a b c : KeyD) (h1 : cmpF a b < 0) (h2 : cmpF b c ≤ 0) : cmpF a c < 0 := by
  rcases int_tri a.kind b.kind with k1 | k1 | k1
  · rcases int_tri b.kind c.kind with k2 | k2 | k2
    · rw [cmpF_kind_lt (by omega)]; decide
    · rw [cmpF_kind_lt (by omega)]; decide
    · rw [cmpF_kind_gt k2] at h2; exact absurd h2 (by decide)
  · rcases int_tri b.kind c.kind with k2 | k2 | k2
    · rw [cmpF_kind_lt (by omega)]; decide
    · rcases int_tri a.num b.num with n1 | n1 | n1
      · rcases int_tri b.num c.num with n2 | n2 | n2
        · rw [cmpF_num_lt (by omega) (by omega)]; decide
        · rw [cmpF_num_lt (by omega) (by omega)]; decide
        · rw [cmpF_num_gt k2 n2] at h2; exact absurd h2 (by decide)
      · rcases int_tri b.num c.num with n2 | n2 | n2
        · rw [cmpF_num_lt (by omega) (by omega)]; decide
        · rw [cmpF_text k1 n1] at h1
          rw [cmpF_text k2 n2] at h2
          rw [cmpF_text (by omega) (by omega)]
          exact cmpB_trans _ _ _ h1 h2
        · rw [cmpF_num_gt k2 n2] at h2; exact absurd h2 (by decide)
      · rw [cmpF_num_gt k1 n1] at h1; exact absurd h1 (by decide)
    · rw [cmpF_kind_gt k2] at h2; exact absurd h2 (by decide)
  · rw [cmpF_kind_gt k1] at h1; exact absurd h1 (by decide)
/-- What the three comparisons of three keys can be. -/
theorem cmpF_three (a b c : KeyD) (x y z : Int) (hx : cmpF a b = x) (hy : cmpF b c = y) (hz : cmpF a c = z) :
    (x = -1 ∧ y = -1 ∧ z = -1) ∨ (x = -1 ∧ y = 0 ∧ z = -1) ∨ (x = -1 ∧ y = 1) ∨ (x = 0 ∧ y = -1 ∧ z = -1) ∨ (x = 0 ∧ y = 0 ∧ z = 0) ∨ (x = 0 ∧ y = 1) ∨ x = 1 := by
  have rx := cmpF_range a b
  have ry := cmpF_range b c
  have rz := cmpF_range a c
  have t := cmpF_lt_le a b c
  have t0 : x = 0 → z = y := by intro h; rw [← hx] at h; rw [← hz, ← hy, cmpF_zero h]
  rw [hx] at rx t
  rw [hy] at ry t
  rw [hz] at rz t
  clear hx hy hz
  rcases rx with h | h | h
  · rcases ry with h2 | h2 | h2
    · have h3 := t (by omega) (by omega); exact .inl ⟨h, h2, by omega⟩
    · have h3 := t (by omega) (by omega); exact .inr (.inl ⟨h, h2, by omega⟩)
    · exact .inr (.inr (.inl ⟨h, h2⟩))
  · have h3 := t0 h
    rcases ry with h2 | h2 | h2
    · exact .inr (.inr (.inr (.inl ⟨h, h2, by omega⟩)))
    · exact .inr (.inr (.inr (.inr (.inl ⟨h, h2, by omega⟩))))
    · exact .inr (.inr (.inr (.inr (.inr (.inl ⟨h, h2⟩)))))
  · exact .inr (.inr (.inr (.inr (.inr (.inr h)))))
end OrdP
