/- The runes of a text with their places, as plain lists; what 'Fold' makes of a text. -/
import Derived.Test.YtfckomjbgopmaaaDoorFoldText
namespace FoldP
open Go.Lib Go

/-- The runes of what is left of a text, from place p on: each with its place. -/
def runesGo : Nat → Nat → List UInt8 → List (Nat × Int)
  | 0, _, _ => []
  | f + 1, p, l => if l = [] then [] else (p, ((decodeL l).1 : Int)) :: runesGo f (p + (decodeL l).2) (l.drop (decodeL l).2)
def runesFrom (p : Nat) (l : List UInt8) : List (Nat × Int) := runesGo l.length p l
def runesL (l : List UInt8) : List (Nat × Int) := runesFrom 0 l

theorem runesGo_nil : ∀ f p, runesGo f p [] = []
  | 0, _ => rfl
  | _ + 1, _ => by simp [runesGo]
theorem runesGo_fuel : ∀ (n m p : Nat) (l : List UInt8), l.length ≤ n → l.length ≤ m → runesGo n p l = runesGo m p l
  | 0, m, p, l, hn, _ => by
    have : l = [] := List.eq_nil_of_length_eq_zero (by omega)
    subst this; rw [runesGo_nil, runesGo_nil]
  | n + 1, 0, p, l, _, hm => by
    have : l = [] := List.eq_nil_of_length_eq_zero (by omega)
    subst this; rw [runesGo_nil, runesGo_nil]
  | n + 1, m + 1, p, l, hn, hm => by
    by_cases hne : l = []
    · subst hne; rw [runesGo_nil, runesGo_nil]
    · have hw := decodeL_width l
      have hl : 0 < l.length := List.length_pos_iff.2 hne
      simp only [runesGo, if_neg hne]
      rw [runesGo_fuel n m _ _ (by rw [List.length_drop]; omega) (by rw [List.length_drop]; omega)]
theorem runesFrom_nil (p : Nat) : runesFrom p [] = [] := rfl
theorem runesFrom_step (p : Nat) (l : List UInt8) (hne : l ≠ []) : runesFrom p l = (p, ((decodeL l).1 : Int)) :: runesFrom (p + (decodeL l).2) (l.drop (decodeL l).2) := by
  have hw := decodeL_width l
  have hl : 0 < l.length := List.length_pos_iff.2 hne
  unfold runesFrom
  obtain ⟨n, hn⟩ : ∃ n, l.length = n + 1 := ⟨l.length - 1, by omega⟩
  rw [hn]
  simp only [runesGo, if_neg hne]
  rw [runesGo_fuel n _ _ _ (by rw [List.length_drop]; omega) (Nat.le_refl _)]
/-- At place k of a whole text. -/
theorem runesAt (l : List UInt8) (k : Nat) (h : k < l.length) :
    runesFrom k (l.drop k) = (k, ((decodeL (l.drop k)).1 : Int)) :: runesFrom (k + (decodeL (l.drop k)).2) (l.drop (k + (decodeL (l.drop k)).2)) := by
  rw [runesFrom_step _ _ (by intro e; have := congrArg List.length e; simp at this; omega), List.drop_drop]
theorem runesEnd (l : List UInt8) (k : Nat) (h : l.length ≤ k) : runesFrom k (l.drop k) = [] := by
  rw [List.drop_eq_nil_of_le h]; rfl
/-- A step stays within the text. -/
theorem step_le (l : List UInt8) (k : Nat) (h : k < l.length) : 1 ≤ (decodeL (l.drop k)).2 ∧ k + (decodeL (l.drop k)).2 ≤ l.length := by
  have hne : l.drop k ≠ [] := by intro e; have := congrArg List.length e; simp at this; omega
  have h1 := decodeL_le _ hne
  rw [List.length_drop] at h1
  exact ⟨decodeL_width _, by omega⟩

theorem runesFrom_mem (l : List UInt8) : ∀ (f k : Nat), l.length - k ≤ f → ∀ x ∈ runesFrom k (l.drop k), k ≤ x.1 ∧ x.1 < l.length ∧ x.2 = ((decodeL (l.drop x.1)).1 : Int)
  | 0, k, hf, x, hx => by rw [runesEnd l k (by omega)] at hx; cases hx
  | f + 1, k, hf, x, hx => by
    by_cases h : k < l.length
    · rw [runesAt l k h] at hx
      have hs := step_le l k h
      rcases List.mem_cons.1 hx with rfl | hx
      · exact ⟨Nat.le_refl _, h, rfl⟩
      · have := runesFrom_mem l f _ (by omega) x hx
        exact ⟨by omega, this.2⟩
    · rw [runesEnd l k (by omega)] at hx; cases hx
theorem runesL_mem {l : List UInt8} {x : Nat × Int} (h : x ∈ runesL l) : x.1 < l.length ∧ x.2 = ((decodeL (l.drop x.1)).1 : Int) := by
  have := runesFrom_mem l l.length 0 (by omega) x (by simpa [runesL] using h)
  exact this.2
theorem runesFrom_length (l : List UInt8) : ∀ (f k : Nat), l.length - k ≤ f → (runesFrom k (l.drop k)).length ≤ l.length - k
  | 0, k, hf => by rw [runesEnd l k (by omega)]; simp
  | f + 1, k, hf => by
    by_cases h : k < l.length
    · rw [runesAt l k h]
      have hs := step_le l k h
      have := runesFrom_length l f (k + (decodeL (l.drop k)).2) (by omega)
      simp only [List.length_cons]; omega
    · rw [runesEnd l k (by omega)]; simp
theorem runesL_length (l : List UInt8) : (runesL l).length ≤ l.length := by
  have := runesFrom_length l l.length 0 (by omega)
  simpa [runesL] using this

theorem validAt (l : List UInt8) (k : Nat) (h : k < l.length) :
    validD (l.drop k) = if (decodeL (l.drop k)).1 = 65533 ∧ (decodeL (l.drop k)).2 = 1 then false else validD (l.drop (k + (decodeL (l.drop k)).2)) := by
  rw [validD_step _ (by intro e; have := congrArg List.length e; simp at this; omega), List.drop_drop]

/-- What 'Fold' makes of what is left. -/
def foldGo : Nat → List UInt8 → List UInt8
  | 0, _ => []
  | f + 1, l => if l = [] then [] else (if lowerF (decodeL l).1 = (decodeL l).1 then l.take (decodeL l).2 else encodeRune (lowerF (decodeL l).1)) ++ foldGo f (l.drop (decodeL l).2)
def foldL (l : List UInt8) : List UInt8 := foldGo l.length l
theorem foldGo_nil : ∀ f, foldGo f [] = []
  | 0 => rfl
  | _ + 1 => by simp [foldGo]
theorem foldGo_fuel : ∀ (n m : Nat) (l : List UInt8), l.length ≤ n → l.length ≤ m → foldGo n l = foldGo m l
  | 0, m, l, hn, _ => by
    have : l = [] := List.eq_nil_of_length_eq_zero (by omega)
    subst this; rw [foldGo_nil, foldGo_nil]
  | n + 1, 0, l, _, hm => by
    have : l = [] := List.eq_nil_of_length_eq_zero (by omega)
    subst this; rw [foldGo_nil, foldGo_nil]
  | n + 1, m + 1, l, hn, hm => by
    by_cases hne : l = []
    · subst hne; rw [foldGo_nil, foldGo_nil]
    · have hw := decodeL_width l
      have hl : 0 < l.length := List.length_pos_iff.2 hne
      simp only [foldGo, if_neg hne]
      rw [foldGo_fuel n m _ (by rw [List.length_drop]; omega) (by rw [List.length_drop]; omega)]
/-- The piece that the rune in front gives. -/
def piece (l : List UInt8) : List UInt8 := if lowerF (decodeL l).1 = (decodeL l).1 then l.take (decodeL l).2 else encodeRune (lowerF (decodeL l).1)
theorem foldL_nil : foldL [] = [] := rfl
theorem foldL_step (l : List UInt8) (hne : l ≠ []) : foldL l = piece l ++ foldL (l.drop (decodeL l).2) := by
  have hw := decodeL_width l
  have hl : 0 < l.length := List.length_pos_iff.2 hne
  unfold foldL piece
  obtain ⟨n, hn⟩ : ∃ n, l.length = n + 1 := ⟨l.length - 1, by omega⟩
  rw [hn]
  simp only [foldGo, if_neg hne]
  rw [foldGo_fuel n _ _ (by rw [List.length_drop]; omega) (Nat.le_refl _)]
theorem foldAt (l : List UInt8) (k : Nat) (h : k < l.length) : foldL (l.drop k) = piece (l.drop k) ++ foldL (l.drop (k + (decodeL (l.drop k)).2)) := by
  rw [foldL_step _ (by intro e; have := congrArg List.length e; simp at this; omega), List.drop_drop]
theorem foldEnd (l : List UInt8) (k : Nat) (h : l.length ≤ k) : foldL (l.drop k) = [] := by rw [List.drop_eq_nil_of_le h]; rfl

/-- A number whose lower case is another: both have one byte, or both have two. -/
theorem lower_moves (r : Int) (h0 : 0 ≤ r) (h : lowerF r ≠ r) : (r < 128 ∧ 0 ≤ lowerF r ∧ lowerF r < 128) ∨ (128 ≤ r ∧ r < 2048 ∧ 128 ≤ lowerF r ∧ lowerF r < 2048) := by
  revert h
  rw [lowerF_eq]
  repeat' split
  all_goals (intro h; omega)
theorem dec_width (l : List UInt8) (h : (decodeL l).1 ≠ 65533) : ((decodeL l).1 < 128 → (decodeL l).2 = 1) ∧ (128 ≤ (decodeL l).1 → (decodeL l).1 < 2048 → (decodeL l).2 = 2) := by
  have hr := runeLen_decode l h
  unfold runeLen at hr
  constructor
  · intro h1
    rw [if_neg (by omega), if_pos (by omega)] at hr; omega
  · intro h1 h2
    rw [if_neg (by omega), if_neg (by omega), if_pos (by omega)] at hr; omega
theorem piece_len (l : List UInt8) (hne : l ≠ []) : (piece l).length = (decodeL l).2 := by
  have hle := decodeL_le l hne
  unfold piece
  by_cases h : lowerF (decodeL l).1 = (decodeL l).1
  · rw [if_pos h, List.length_take]; omega
  · rw [if_neg h]
    have hm := lower_moves _ (by omega) h
    have hodd : (decodeL l).1 ≠ 65533 := by omega
    have hw := dec_width l hodd
    have e : (encodeRune (lowerF ((decodeL l).1 : Int))).length = (encodeRuneZ (lowerF ((decodeL l).1 : Int))).length := by simp [encodeRune]
    rw [e]
    rcases hm with hm | hm
    · rw [encodeRuneZ_one (by omega) (by omega)]; have := hw.1 (by omega); simp; omega
    · rw [encodeRuneZ_two (by omega) (by omega)]; have := hw.2 (by omega) (by omega); simp; omega

end FoldP
