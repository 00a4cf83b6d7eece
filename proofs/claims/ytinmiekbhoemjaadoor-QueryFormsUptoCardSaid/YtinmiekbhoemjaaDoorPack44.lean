/- What is written is read again, in plain Lean: a formed query from its text, unless it is too deep. What is written is read again, in plain Lean: a formed query from its text, unless it is too deep. -/
import Derived.Test.YtinmiekbhoemjaaDoorQryReadP
section
namespace QryP
open SchP

/-- What may stand behind a query, a number or a name. -/
def Stop (r : R) : Prop := ∀ c t, r = c :: t → c = 44 ∨ c = 41
theorem Stop.let {r : R} (h : Stop r) : r.takeWhile letB = [] ∧ r.dropWhile letB = r := by
  cases r with
  | nil => exact ⟨rfl, rfl⟩
  | cons c t => rcases h c t rfl with rfl | rfl <;> exact ⟨rfl, rfl⟩
theorem Stop.skip {r : R} (h : Stop r) : skipS r = r := by
  cases r with
  | nil => rfl
  | cons c t => rcases h c t rfl with rfl | rfl <;> rfl
/-! ### Names -/
theorem name_ne {s : ByteArray} (h : nameB s = true) : s.data.toList ≠ [] := by
  simp only [nameB, Bool.and_eq_true, decide_eq_true_eq] at h
  intro h0
  have : s.size = 0 := by show s.data.size = 0; rw [← Array.length_toList, h0]; rfl
  omega
/-! ### Numbers -/
section
variable {num : Int → R} {par : R → Option Int} {I : Int → Prop}
structure NumLaw (num : Int → R) (par : R → Option Int) (I : Int → Prop) : Prop where
  back : ∀ n, I n → par (num n) = some n
  form : ∀ n, ∃ s ds, num n = s ++ ds ∧ (s = [] ∨ s = [45]) ∧ ds ≠ [] ∧ ∀ c ∈ ds, digB c = true
/-! ### Quoted texts -/
/-! ### Words -/
end
end QryP
end
section
namespace QryP
open SchP

section
variable {num : Int → R} {par : R → Option Int} {I : Int → Prop}
mutual
def numsIn (I : Int → Prop) : QT → Prop
  | .mk _ _ _ _ _ l h b _ ks => (∀ z ∈ l, I z) ∧ (∀ z ∈ h, I z) ∧ I b ∧ numsInL I ks
def numsInL (I : Int → Prop) : List QT → Prop
  | [] => True
  | q :: qs => numsIn I q ∧ numsInL I qs
end
/-- Read, or too deep. -/
def Reads (num : Int → R) (par : R → Option Int) (d : Nat) (q : QT) (rest : R) : Prop :=
  (depthF q ≤ d → queryS num par d (writeF num q ++ rest) = .ok (setOc 0 q, rest)) ∧ (d < depthF q → ∃ p, queryS num par d (writeF num q ++ rest) = .error (p, 182))
theorem emp_of {s : ByteArray} (h : s.size = 0) : s = emp := by
  apply ByteArray.ext
  exact Array.eq_empty_of_size_eq_zero h
theorem nil_of {α : Type} {l : List α} (h : l.length = 0) : l = [] := List.eq_nil_of_length_eq_zero h
theorem own_oc {q : QT} {u : Int} (h : ownB q u = true) : (u = 8 → 1 ≤ oc q ∧ oc q ≤ 4) ∧ (u ≠ 8 → oc q = 0) := by
  simp only [ownB, Bool.and_eq_true] at h
  have h1 := h.1.1.1.1.1.1.1.1
  refine ⟨fun e => ?_, fun e => ?_⟩
  · rw [if_pos e] at h1; exact of_decide_eq_true h1
  · rw [if_neg e] at h1; exact of_decide_eq_true h1
section
variable {qs : R → E (QT × R)} {m : Nat} {r t rest : R} {c : UInt8} {k : QT}
end
/-- What an own part tells. -/
theorem own_facts {k o : Int} {f t u : ByteArray} {l h : List Int} {b p : Int} {ks : List QT} {under : Int} (hw : ownB (.mk k o f t u l h b p ks) under = true) :
    (1 ≤ k ∧ k ≤ 10) ∧ ((3 ≤ k ∧ k ≤ 7 ∨ k = 10) → nameB f = true) ∧ (¬ (3 ≤ k ∧ k ≤ 7 ∨ k = 10) → f = emp) ∧ (¬ (3 ≤ k ∧ k ≤ 6) → t = emp) ∧ (k ≠ 6 → u = emp) ∧ (k = 7 → 1 ≤ l.length ∧ l.length ≤ 4 ∧ h.length = l.length) ∧ (k = 10 → l.length = 1 ∧ h = [])
    ∧ (k ≠ 7 → k ≠ 10 → l = [] ∧ h = []) ∧ (k = 9 → 0 ≤ b ∧ b ≤ 1048576) ∧ (k ≠ 9 → b = 0) ∧ (k = 10 → 1 ≤ p ∧ p ≤ 3) ∧ (k ≠ 10 → p = 0) ∧ ((k = 9 ∨ k = 10) → ks.length = 1) ∧ (k ≠ 8 → ¬ (k = 9 ∨ k = 10) → ks = []) := by
  have h' : ((((((((if under = 8 then decide (1 ≤ o ∧ o ≤ 4) else decide (o = 0)) && decide (1 ≤ k ∧ k ≤ 10)) && (if 3 ≤ k ∧ k ≤ 7 ∨ k = 10 then nameB f else decide (f.size = 0)))
    && (decide (3 ≤ k ∧ k ≤ 6) || decide (t.size = 0))) && (decide (k = 6) || decide (u.size = 0)))
    && (if k = 7 then decide (1 ≤ l.length ∧ l.length ≤ 4 ∧ h.length = l.length) else if k = 10 then decide (l.length = 1 ∧ h.length = 0) else decide (l.length = 0 ∧ h.length = 0)))
    && (if k = 9 then decide (0 ≤ b ∧ b ≤ 1048576) else decide (b = 0)))
    && (if k = 10 then decide (1 ≤ p ∧ p ≤ 3) else decide (p = 0))
    && (if k = 9 ∨ k = 10 then decide (ks.length = 1) else decide (k = 8) || decide (ks.length = 0))) = true := hw
  simp only [Bool.and_eq_true] at h'
  obtain ⟨⟨⟨⟨⟨⟨⟨⟨_, hk⟩, hfd⟩, htx⟩, hup⟩, hnum⟩, hbo⟩, hop⟩, hkd⟩ := h'
  refine ⟨of_decide_eq_true hk, fun e => ?_, fun e => ?_, fun e => ?_, fun e => ?_, fun e => ?_, fun e => ?_, fun e e' => ?_, fun e => ?_, fun e => ?_, fun e => ?_, fun e => ?_, fun e => ?_, fun e e' => ?_⟩
  · rwa [if_pos e] at hfd
  · rw [if_neg e] at hfd; exact emp_of (of_decide_eq_true hfd)
  · rw [decide_eq_false e, Bool.false_or] at htx; exact emp_of (of_decide_eq_true htx)
  · rw [decide_eq_false e, Bool.false_or] at hup; exact emp_of (of_decide_eq_true hup)
  · rw [if_pos e] at hnum; exact of_decide_eq_true hnum
  · rw [if_neg (by omega), if_pos e] at hnum; have := of_decide_eq_true hnum; exact ⟨this.1, nil_of this.2⟩
  · rw [if_neg e, if_neg e'] at hnum; have := of_decide_eq_true hnum; exact ⟨nil_of this.1, nil_of this.2⟩
  · rw [if_pos e] at hbo; exact of_decide_eq_true hbo
  · rw [if_neg e] at hbo; exact of_decide_eq_true hbo
  · rw [if_pos e] at hop; exact of_decide_eq_true hop
  · rw [if_neg e] at hop; exact of_decide_eq_true hop
  · rw [if_pos e] at hkd; exact of_decide_eq_true hkd
  · rw [if_neg e', decide_eq_false e, Bool.false_or] at hkd; exact nil_of (of_decide_eq_true hkd)
end
end QryP
end
