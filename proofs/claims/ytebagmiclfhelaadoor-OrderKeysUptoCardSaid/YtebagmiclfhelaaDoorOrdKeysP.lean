/- A row of keys read out of bytes, as a plain Lean function. -/
import Derived.Test.YtebagmiclfhelaaDoorOrdNext
set_option linter.unusedVariables false
namespace Go.Proofs.YtebagmiclfhelaaDoor.OrdLib
open Go.RowKit Go.Lib OrdP Kit OrdRef Words Owned
/-- A key out of its bytes, and what is left. -/
def keyOne : List UInt8 → Option (KeyD × List UInt8)
  | [] => none
  | c :: r => if c = 0 then some (⟨0, 0, ⟨#[]⟩⟩, r)
    else if c = 1 then (if 8 ≤ r.length then some (⟨1, (valB (r.take 8) : Int) - 9223372036854775808, ⟨#[]⟩⟩, r.drop 8) else none)
    else if c = 2 then (unesc r).map (fun x => (⟨2, 0, str x.1⟩, x.2)) else none
def keysN : Nat → List UInt8 → Option (List KeyD)
  | _, [] => some []
  | 0, _ :: _ => none
  | n + 1, c :: r => match keyOne (c :: r) with
    | none => none
    | some (k, l) => (keysN n l).map (k :: ·)
/-- A row of keys out of bytes. -/
def keysF (l : List UInt8) : Option (List KeyD) := keysN l.length l
theorem unesc_shorter : ∀ (n : Nat) (l t r : List UInt8), l.length ≤ n → unesc l = some (t, r) → r.length < l.length ∧ t.length ≤ l.length
  | _, [], t, r, _, h => by rw [unesc.eq_def] at h; cases h
  | 0, _ :: _, _, _, h, _ => by simp at h
  | n + 1, c :: l, t, r, hn, h => by
    by_cases h0 : c = 0
    · subst h0
      cases l with
      | nil => rw [unesc_zero] at h; cases h
      | cons d l =>
        by_cases h1 : d = 1
        · subst h1
          rw [unesc_end] at h
          simp only [Option.some.injEq, Prod.mk.injEq] at h
          obtain ⟨rfl, rfl⟩ := h
          simp; omega
        · by_cases h2 : d = 255
          · subst h2
            rw [unesc_255, Option.map_eq_some_iff] at h
            obtain ⟨⟨t2, r2⟩, e, e2⟩ := h
            simp only [Prod.mk.injEq] at e2
            obtain ⟨rfl, rfl⟩ := e2
            have := unesc_shorter n l t2 r2 (by simp at hn; omega) e
            simp; omega
          · rw [unesc_bad h1 h2] at h; cases h
    · rw [unesc_c h0, Option.map_eq_some_iff] at h
      obtain ⟨⟨t2, r2⟩, e, e2⟩ := h
      simp only [Prod.mk.injEq] at e2
      obtain ⟨rfl, rfl⟩ := e2
      have := unesc_shorter n l t2 r2 (by simp at hn; omega) e
      simp; omega
theorem keyOne_shorter {l : List UInt8} {k : KeyD} {r : List UInt8} (h : keyOne l = some (k, r)) : r.length < l.length := by
  cases l with
  | nil => cases h
  | cons c l =>
    unfold keyOne at h
    dsimp only at h
    by_cases h0 : c = 0
    · rw [if_pos h0] at h
      simp only [Option.some.injEq, Prod.mk.injEq] at h
      obtain ⟨_, rfl⟩ := h
      simp
    · rw [if_neg h0] at h
      by_cases h1 : c = 1
      · rw [if_pos h1] at h
        by_cases h8 : 8 ≤ l.length
        · rw [if_pos h8] at h
          simp only [Option.some.injEq, Prod.mk.injEq] at h
          obtain ⟨_, rfl⟩ := h
          simp; omega
        · rw [if_neg h8] at h; cases h
      · rw [if_neg h1] at h
        by_cases h2 : c = 2
        · rw [if_pos h2, Option.map_eq_some_iff] at h
          obtain ⟨⟨t, r2⟩, e, e2⟩ := h
          simp only [Prod.mk.injEq] at e2
          obtain ⟨_, rfl⟩ := e2
          have := unesc_shorter l.length l t _ (Nat.le_refl _) e
          simp; omega
        · rw [if_neg h2] at h; cases h
theorem keysN_enough : ∀ (n m : Nat) (l : List UInt8), l.length ≤ n → l.length ≤ m → keysN n l = keysN m l
  | n, m, [], _, _ => by cases n <;> cases m <;> rfl
  | 0, _, _ :: _, h, _ => by simp at h
  | _, 0, _ :: _, _, h => by simp at h
  | n + 1, m + 1, c :: r, h1, h2 => by
    unfold keysN
    cases hk : keyOne (c :: r) with
    | none => rfl
    | some x =>
      obtain ⟨k, l⟩ := x
      dsimp only
      have := keyOne_shorter hk
      simp only [List.length_cons] at *
      rw [keysN_enough n m l (by omega) (by omega)]
theorem keyOne_0 (r : List UInt8) : keyOne (0 :: r) = some (⟨0, 0, ⟨#[]⟩⟩, r) := rfl
theorem keyOne_1 {r : List UInt8} (h : 8 ≤ r.length) : keyOne (1 :: r) = some (⟨1, (valB (r.take 8) : Int) - 9223372036854775808, ⟨#[]⟩⟩, r.drop 8) := by
  unfold keyOne; dsimp only; rw [if_neg (by decide), if_pos rfl, if_pos h]
theorem keyOne_1f {r : List UInt8} (h : ¬ 8 ≤ r.length) : keyOne (1 :: r) = none := by
  unfold keyOne; dsimp only; rw [if_neg (by decide), if_pos rfl, if_neg h]
theorem keyOne_2 (r : List UInt8) : keyOne (2 :: r) = (unesc r).map (fun x => (⟨2, 0, str x.1⟩, x.2)) := by
  unfold keyOne; dsimp only; rw [if_neg (by decide), if_neg (by decide), if_pos rfl]
theorem keyOne_x {c : UInt8} (h0 : c ≠ 0) (h1 : c ≠ 1) (h2 : c ≠ 2) (r : List UInt8) : keyOne (c :: r) = none := by
  unfold keyOne; dsimp only; rw [if_neg h0, if_neg h1, if_neg h2]
theorem keysF_nil : keysF [] = some [] := rfl
theorem keysF_none {l : List UInt8} (hl : l ≠ []) (h : keyOne l = none) : keysF l = none := by
  cases l with
  | nil => exact absurd rfl hl
  | cons c r => unfold keysF; rw [List.length_cons, keysN, h]
theorem keysF_some {l r : List UInt8} {k : KeyD} (h : keyOne l = some (k, r)) : keysF l = (keysF r).map (k :: ·) := by
  cases l with
  | nil => cases h
  | cons c s =>
    have := keyOne_shorter h
    unfold keysF
    rw [List.length_cons, keysN, h]
    dsimp only
    rw [keysN_enough s.length r.length r (by simp at this; omega) (Nat.le_refl _)]
end Go.Proofs.YtebagmiclfhelaaDoor.OrdLib
