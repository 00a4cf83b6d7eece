/- The runes of a text with their places, as plain lists; what 'Fold' makes of a text. What the functions of the analysis layer compute, as plain Lean functions: the places of a text's runes, what a filter makes of a text, tokens through a link. Plain laws: a rune's form is read again, whatever follows; 'Fold' once more; 'Fold' of two texts. -/
import Derived.Test.YtinmiekbhoemjaaGreatDoorPack2
import Derived.Test.YtinmiekbhoemjaaGreatDoorPack1
section
namespace FoldP
open Go.Lib Go

/-- The runes of what is left of a text, from place p on: each with its place. -/
def runesGo : Nat → Nat → List UInt8 → List (Nat × Int)
  | 0, _, _ => []
  | f + 1, p, l => if l = [] then [] else (p, ((decodeL l).1 : Int)) :: runesGo f (p + (decodeL l).2) (l.drop (decodeL l).2)
def runesFrom (p : Nat) (l : List UInt8) : List (Nat × Int) := runesGo l.length p l
def runesL (l : List UInt8) : List (Nat × Int) := runesFrom 0 l

theorem runesGo_nil : ∀ f p, runesGo f p [] = []
  | 0, _ => rfl
  | _ + 1, _ => by simp [runesGo]
theorem runesGo_fuel : ∀ (n m p : Nat) (l : List UInt8), l.length ≤ n → l.length ≤ m → runesGo n p l = runesGo m p l
  | 0, m, p, l, hn, _ => by
    have : l = [] := List.eq_nil_of_length_eq_zero (by omega)
    subst this; rw [runesGo_nil, runesGo_nil]
  | n + 1, 0, p, l, _, hm => by
    have : l = [] := List.eq_nil_of_length_eq_zero (by omega)
    subst this; rw [runesGo_nil, runesGo_nil]
  | n + 1, m + 1, p, l, hn, hm => by
    by_cases hne : l = []
    · subst hne; rw [runesGo_nil, runesGo_nil]
    · have hw := decodeL_width l
      have hl : 0 < l.length := List.length_pos_iff.2 hne
      simp only [runesGo, if_neg hne]
      rw [runesGo_fuel n m _ _ (by rw [List.length_drop]; omega) (by rw [List.length_drop]; omega)]
theorem runesFrom_step (p : Nat) (l : List UInt8) (hne : l ≠ []) : runesFrom p l = (p, ((decodeL l).1 : Int)) :: runesFrom (p + (decodeL l).2) (l.drop (decodeL l).2) := by
  have hw := decodeL_width l
  have hl : 0 < l.length := List.length_pos_iff.2 hne
  unfold runesFrom
  obtain ⟨n, hn⟩ : ∃ n, l.length = n + 1 := ⟨l.length - 1, by omega⟩
  rw [hn]
  simp only [runesGo, if_neg hne]
  rw [runesGo_fuel n _ _ _ (by rw [List.length_drop]; omega) (Nat.le_refl _)]
/-- At place k of a whole text. -/
theorem runesAt (l : List UInt8) (k : Nat) (h : k < l.length) :
    runesFrom k (l.drop k) = (k, ((decodeL (l.drop k)).1 : Int)) :: runesFrom (k + (decodeL (l.drop k)).2) (l.drop (k + (decodeL (l.drop k)).2)) := by
  rw [runesFrom_step _ _ (by intro e; have := congrArg List.length e; simp at this; omega), List.drop_drop]
theorem runesEnd (l : List UInt8) (k : Nat) (h : l.length ≤ k) : runesFrom k (l.drop k) = [] := by
  rw [List.drop_eq_nil_of_le h]; rfl
/-- A step stays within the text. -/
theorem step_le (l : List UInt8) (k : Nat) (h : k < l.length) : 1 ≤ (decodeL (l.drop k)).2 ∧ k + (decodeL (l.drop k)).2 ≤ l.length := by
  have hne : l.drop k ≠ [] := by intro e; have := congrArg List.length e; simp at this; omega
  have h1 := decodeL_le _ hne
  rw [List.length_drop] at h1
  exact ⟨decodeL_width _, by omega⟩

theorem runesFrom_mem (l : List UInt8) : ∀ (f k : Nat), l.length - k ≤ f → ∀ x ∈ runesFrom k (l.drop k), k ≤ x.1 ∧ x.1 < l.length ∧ x.2 = ((decodeL (l.drop x.1)).1 : Int)
  | 0, k, hf, x, hx => by rw [runesEnd l k (by omega)] at hx; cases hx
  | f + 1, k, hf, x, hx => by
    by_cases h : k < l.length
    · rw [runesAt l k h] at hx
      have hs := step_le l k h
      rcases List.mem_cons.1 hx with rfl | hx
      · exact ⟨Nat.le_refl _, h, rfl⟩
      · have := runesFrom_mem l f _ (by omega) x hx
        exact ⟨by omega, this.2⟩
    · rw [runesEnd l k (by omega)] at hx; cases hx
theorem runesL_mem {l : List UInt8} {x : Nat × Int} (h : x ∈ runesL l) : x.1 < l.length ∧ x.2 = ((decodeL (l.drop x.1)).1 : Int) := by
  have := runesFrom_mem l l.length 0 (by omega) x (by simpa [runesL] using h)
  exact this.2
theorem runesFrom_length (l : List UInt8) : ∀ (f k : Nat), l.length - k ≤ f → (runesFrom k (l.drop k)).length ≤ l.length - k
  | 0, k, hf => by rw [runesEnd l k (by omega)]; simp
  | f + 1, k, hf => by
    by_cases h : k < l.length
    · rw [runesAt l k h]
      have hs := step_le l k h
      have := runesFrom_length l f (k + (decodeL (l.drop k)).2) (by omega)
      simp only [List.length_cons]; omega
    · rw [runesEnd l k (by omega)]; simp
theorem runesL_length (l : List UInt8) : (runesL l).length ≤ l.length := by
  have := runesFrom_length l l.length 0 (by omega)
  simpa [runesL] using this

/-- What 'Fold' makes of what is left. -/
def foldGo : Nat → List UInt8 → List UInt8
  | 0, _ => []
  | f + 1, l => if l = [] then [] else (if lowerF (decodeL l).1 = (decodeL l).1 then l.take (decodeL l).2 else encodeRune (lowerF (decodeL l).1)) ++ foldGo f (l.drop (decodeL l).2)
def foldL (l : List UInt8) : List UInt8 := foldGo l.length l
theorem foldGo_nil : ∀ f, foldGo f [] = []
  | 0 => rfl
  | _ + 1 => by simp [foldGo]
theorem foldGo_fuel : ∀ (n m : Nat) (l : List UInt8), l.length ≤ n → l.length ≤ m → foldGo n l = foldGo m l
  | 0, m, l, hn, _ => by
    have : l = [] := List.eq_nil_of_length_eq_zero (by omega)
    subst this; rw [foldGo_nil, foldGo_nil]
  | n + 1, 0, l, _, hm => by
    have : l = [] := List.eq_nil_of_length_eq_zero (by omega)
    subst this; rw [foldGo_nil, foldGo_nil]
  | n + 1, m + 1, l, hn, hm => by
    by_cases hne : l = []
    · subst hne; rw [foldGo_nil, foldGo_nil]
    · have hw := decodeL_width l
      have hl : 0 < l.length := List.length_pos_iff.2 hne
      simp only [foldGo, if_neg hne]
      rw [foldGo_fuel n m _ (by rw [List.length_drop]; omega) (by rw [List.length_drop]; omega)]
/-- The piece that the rune in front gives. -/
def piece (l : List UInt8) : List UInt8 := if lowerF (decodeL l).1 = (decodeL l).1 then l.take (decodeL l).2 else encodeRune (lowerF (decodeL l).1)
theorem foldL_step (l : List UInt8) (hne : l ≠ []) : foldL l = piece l ++ foldL (l.drop (decodeL l).2) := by
  have hw := decodeL_width l
  have hl : 0 < l.length := List.length_pos_iff.2 hne
  unfold foldL piece
  obtain ⟨n, hn⟩ : ∃ n, l.length = n + 1 := ⟨l.length - 1, by omega⟩
  rw [hn]
  simp only [foldGo, if_neg hne]
  rw [foldGo_fuel n _ _ (by rw [List.length_drop]; omega) (Nat.le_refl _)]
theorem foldAt (l : List UInt8) (k : Nat) (h : k < l.length) : foldL (l.drop k) = piece (l.drop k) ++ foldL (l.drop (k + (decodeL (l.drop k)).2)) := by
  rw [foldL_step _ (by intro e; have := congrArg List.length e; simp at this; omega), List.drop_drop]
theorem foldEnd (l : List UInt8) (k : Nat) (h : l.length ≤ k) : foldL (l.drop k) = [] := by rw [List.drop_eq_nil_of_le h]; rfl

/-- A number whose lower case is another: both have one byte, or both have two. -/
theorem lower_moves (r : Int) (h0 : 0 ≤ r) (h : lowerF r ≠ r) : (r < 128 ∧ 0 ≤ lowerF r ∧ lowerF r < 128) ∨ (128 ≤ r ∧ r < 2048 ∧ 128 ≤ lowerF r ∧ lowerF r < 2048) := by
  revert h
  rw [lowerF_eq]
  repeat' split
  all_goals (intro h; omega)
theorem dec_width (l : List UInt8) (h : (decodeL l).1 ≠ 65533) : ((decodeL l).1 < 128 → (decodeL l).2 = 1) ∧ (128 ≤ (decodeL l).1 → (decodeL l).1 < 2048 → (decodeL l).2 = 2) := by
  have hr := runeLen_decode l h
  unfold runeLen at hr
  constructor
  · intro h1
    rw [if_neg (by omega), if_pos (by omega)] at hr; omega
  · intro h1 h2
    rw [if_neg (by omega), if_neg (by omega), if_pos (by omega)] at hr; omega
theorem piece_len (l : List UInt8) (hne : l ≠ []) : (piece l).length = (decodeL l).2 := by
  have hle := decodeL_le l hne
  unfold piece
  by_cases h : lowerF (decodeL l).1 = (decodeL l).1
  · rw [if_pos h, List.length_take]; omega
  · rw [if_neg h]
    have hm := lower_moves _ (by omega) h
    have hodd : (decodeL l).1 ≠ 65533 := by omega
    have hw := dec_width l hodd
    have e : (encodeRune (lowerF ((decodeL l).1 : Int))).length = (encodeRuneZ (lowerF ((decodeL l).1 : Int))).length := by simp [encodeRune]
    rw [e]
    rcases hm with hm | hm
    · rw [encodeRuneZ_one (by omega) (by omega)]; have := hw.1 (by omega); simp; omega
    · rw [encodeRuneZ_two (by omega) (by omega)]; have := hw.2 (by omega) (by omega); simp; omega

end FoldP
end
section
namespace AnaP
open Go.Lib Go FoldP

/-- A token. -/
structure TokD where
  text : ByteArray
  pos : Int
  frm : Int
  til : Int
def TokD.cells (t : TokD) : List Value := [.string t.text, .int .i64 t.pos, .int .i64 t.frm, .int .i64 t.til]
def tokCells (l : List TokD) : List Value := l.flatMap TokD.cells
theorem cells_len (t : TokD) : t.cells.length = 4 := rfl

/-! ### Places -/
/-- Where the runes of what is left begin, and the text's length. -/
def posFrom (l : List UInt8) (k : Nat) : List Nat := (runesFrom k (l.drop k)).map (·.1) ++ [l.length]
def posL (l : List UInt8) : List Nat := posFrom l 0
def nR (l : List UInt8) : Nat := (runesL l).length
theorem posL_len (l : List UInt8) : (posL l).length = nR l + 1 := by simp [posL, posFrom, nR, runesL]
theorem posFrom_cons (l : List UInt8) (k : Nat) (h : k < l.length) : posFrom l k = k :: posFrom l (k + (decodeL (l.drop k)).2) := by
  unfold posFrom
  rw [runesAt l k h]; rfl
theorem posFrom_end (l : List UInt8) (k : Nat) (h : l.length ≤ k) : posFrom l k = [l.length] := by
  unfold posFrom
  rw [runesEnd l k h]; rfl
theorem posFrom_zero (l : List UInt8) (k : Nat) (h : k ≤ l.length) : (posFrom l k)[0]? = some k := by
  rcases Nat.lt_or_ge k l.length with h1 | h1
  · rw [posFrom_cons l k h1]; rfl
  · rw [posFrom_end l k h1, show k = l.length by omega]; rfl
theorem posFrom_next (l : List UInt8) : ∀ (f k : Nat), l.length - k ≤ f → k ≤ l.length → ∀ (i p q : Nat), (posFrom l k)[i]? = some p → (posFrom l k)[i + 1]? = some q → p < l.length ∧ q = p + (decodeL (l.drop p)).2
  | 0, k, hf, hk, i, p, q, h1, h2 => by
    rw [posFrom_end l k (by omega)] at h2
    simp at h2
  | f + 1, k, hf, hk, i, p, q, h1, h2 => by
    rcases Nat.lt_or_ge k l.length with h | h
    · have hs := step_le l k h
      rw [posFrom_cons l k h] at h1 h2
      cases i with
      | zero =>
        simp only [List.getElem?_cons_zero, Option.some.injEq] at h1
        rw [List.getElem?_cons_succ, posFrom_zero l _ (by omega)] at h2
        simp only [Option.some.injEq] at h2
        subst h1; subst h2
        exact ⟨h, rfl⟩
      | succ i =>
        rw [List.getElem?_cons_succ] at h1 h2
        exact posFrom_next l f _ (by omega) (by omega) i p q h1 h2
    · rw [posFrom_end l k h] at h2
      simp at h2
/-- Where rune i begins; the text's length behind the last one. -/
def posAt (l : List UInt8) (i : Nat) : Nat := (posL l).getD i l.length
theorem posAt_get (l : List UInt8) (i : Nat) (h : i ≤ nR l) : (posL l)[i]? = some (posAt l i) := by
  have hl : i < (posL l).length := by rw [posL_len]; omega
  unfold posAt
  rw [List.getD_eq_getElem?_getD, List.getElem?_eq_getElem hl]; rfl
theorem posAt_zero (l : List UInt8) : posAt l 0 = 0 := by
  have := posAt_get l 0 (by omega)
  rw [posL, posFrom_zero l 0 (by omega)] at this
  exact (Option.some.inj this).symm
theorem posAt_end (l : List UInt8) : posAt l (nR l) = l.length := by
  unfold posAt posL posFrom
  rw [List.getD_eq_getElem?_getD, List.getElem?_append_right (by simp [nR, runesL])]
  simp [nR, runesL]
theorem posAt_next (l : List UInt8) (i : Nat) (h : i < nR l) : posAt l i < l.length ∧ posAt l (i + 1) = posAt l i + (decodeL (l.drop (posAt l i))).2 :=
  posFrom_next l l.length 0 (by omega) (by omega) i _ _ (posAt_get l i (by omega)) (posAt_get l (i + 1) (by omega))
theorem posAt_step (l : List UInt8) (i : Nat) (h : i < nR l) : posAt l i < posAt l (i + 1) ∧ posAt l (i + 1) ≤ l.length := by
  obtain ⟨h1, h2⟩ := posAt_next l i h
  have := step_le l _ h1
  omega
theorem posAt_le (l : List UInt8) (i : Nat) : posAt l i ≤ l.length := by
  rcases Nat.lt_or_ge (nR l) i with h | h
  · unfold posAt
    rw [List.getD_eq_getElem?_getD, List.getElem?_eq_none (by rw [posL_len]; omega)]; simp
  · cases i with
    | zero => rw [posAt_zero]; omega
    | succ i => exact (posAt_step l i (by omega)).2
theorem posAt_mono (l : List UInt8) (i j : Nat) (h : i ≤ j) (hj : j ≤ nR l) : posAt l i ≤ posAt l j := by
  induction j with
  | zero => rw [show i = 0 by omega]; exact Nat.le_refl _
  | succ j ih =>
    rcases Nat.lt_or_ge j i with h1 | h1
    · rw [show i = j + 1 by omega]; exact Nat.le_refl _
    · exact Nat.le_trans (ih h1 (by omega)) (Nat.le_of_lt (posAt_step l j (by omega)).1)
theorem nR_le (l : List UInt8) : nR l ≤ l.length := runesL_length l
theorem runes_get (l : List UInt8) (i : Nat) (h : i < nR l) : (runesL l)[i]? = some (posAt l i, ((decodeL (l.drop (posAt l i))).1 : Int)) := by
  have hl : i < (runesL l).length := h
  have h1 := posAt_get l i (by omega)
  unfold posL posFrom at h1
  rw [List.drop_zero, List.getElem?_append_left (by rw [List.length_map]; exact hl), List.getElem?_map, show runesFrom 0 l = runesL l from rfl, List.getElem?_eq_getElem hl] at h1
  simp only [Option.map_some, Option.some.injEq] at h1
  rw [List.getElem?_eq_getElem hl]
  have h2 := runesL_mem (List.getElem_mem hl)
  rw [h1] at h2
  exact congrArg some (Prod.ext h1 h2.2)

/-! ### Filters -/
def stopWords : List (List UInt8) := [[97], [97, 110], [97, 110, 100], [97, 114, 101], [97, 115], [97, 116], [98, 101], [98, 117, 116], [98, 121], [102, 111, 114], [105, 102], [105, 110], [105, 110, 116, 111], [105, 115], [105, 116], [110, 111], [110, 111, 116], [111, 102], [111, 110], [111, 114], [115, 117, 99, 104], [116, 104, 97, 116], [116, 104, 101], [116, 104, 101, 105, 114], [116, 104, 101, 110], [116, 104, 101, 114, 101], [116, 104, 101, 115, 101], [116, 104, 101, 121], [116, 104, 105, 115], [116, 111], [119, 97, 115], [119, 105, 108, 108], [119, 105, 116, 104]]
def stopF (s : ByteArray) : Bool := stopWords.contains s.data.toList
def gramsF (n : Nat) (s : ByteArray) : List ByteArray := if nR s.data.toList ≤ n then [s] else (List.range (nR s.data.toList + 1 - n)).map fun i => s.extract (posAt s.data.toList i) (posAt s.data.toList (i + n))
def shortF (s : ByteArray) : List ByteArray := if 16 < nR s.data.toList then [s.extract 0 (posAt s.data.toList 16)] else [s]
/-- What a rune leaves when marks are left out. -/
def unmark1 (l : List UInt8) (i : Nat) : List UInt8 := if markF ((decodeL (l.drop (posAt l i))).1 : Int) then [] else (l.drop (posAt l i)).take (posAt l (i + 1) - posAt l i)
def unmarkTo (l : List UInt8) (n : Nat) : List UInt8 := (List.range n).flatMap (unmark1 l)
theorem unmarkTo_succ (l : List UInt8) (n : Nat) : unmarkTo l (n + 1) = unmarkTo l n ++ unmark1 l n := by simp [unmarkTo, List.range_succ, List.flatMap_append]
theorem unmarkTo_len (l : List UInt8) : ∀ n, n ≤ nR l → (unmarkTo l n).length ≤ posAt l n
  | 0, _ => by simp [unmarkTo]
  | n + 1, h => by
    rw [unmarkTo_succ, List.length_append]
    have h1 := unmarkTo_len l n (by omega)
    have h2 := posAt_step l n (by omega)
    have h3 : (unmark1 l n).length ≤ posAt l (n + 1) - posAt l n := by
      unfold unmark1
      split
      · simp
      · rw [List.length_take, List.length_drop]; omega
    omega
def marksF (s : ByteArray) : List ByteArray := if unmarkTo s.data.toList (nR s.data.toList) = [] then [] else [⟨(unmarkTo s.data.toList (nR s.data.toList)).toArray⟩]
/-- Is it a filter's number? -/
def filterB (n : Int) : Bool := decide (10 ≤ n ∧ n ≤ 15)
/-- What a filter makes of a text. -/
def oneF (n : Int) (s : ByteArray) : List ByteArray :=
  if n = 10 then [⟨(foldL s.data.toList).toArray⟩] else if n = 11 then (if stopF s then [] else [s]) else if n = 12 then gramsF 2 s else if n = 13 then gramsF 3 s else if n = 14 then shortF s else marksF s
def oneT (n : Int) (t : TokD) : List TokD := (oneF n t.text).map fun x => { t with text := x }
/-- Tokens through a filter, till they are too many. -/
def linkGo (n : Int) : List TokD → List TokD → Option (List TokD)
  | [], acc => some acc
  | t :: ts, acc => if 4096 < (acc ++ oneT n t).length then none else linkGo n ts (acc ++ oneT n t)
def linkF (n : Int) (l : List TokD) : Option (List TokD) := linkGo n l []
theorem gramsF_len (n : Nat) (s : ByteArray) : (gramsF n s).length ≤ s.size + 1 := by
  have := nR_le s.data.toList
  have e : s.data.toList.length = s.size := by simp
  unfold gramsF
  split <;> simp; omega
theorem oneF_len (n : Int) (s : ByteArray) : (oneF n s).length ≤ s.size + 1 := by
  have h1 := gramsF_len 2 s
  have h2 := gramsF_len 3 s
  unfold oneF shortF marksF
  repeat' split
  all_goals first | exact h1 | exact h2 | simp

/-- Blanks. -/
def blankF (r : Int) : Bool := decide (9 ≤ r ∧ r ≤ 13) || r == 32 || r == 133 || r == 160 || decide (8192 ≤ r ∧ r ≤ 8202) || r == 8232 || r == 8233 || r == 12288
end AnaP
end
section
namespace FoldP
open Go.Lib Go

def contB (b : UInt8) : Prop := 128 ≤ b.toNat ∧ b.toNat < 192

theorem toNat_u8 (z : Int) (h0 : 0 ≤ z) (h1 : z < 256) : ((z.toNat.toUInt8).toNat : Int) = z := by
  have : z.toNat.toUInt8.toNat = z.toNat % 256 := by simp
  rw [this]; omega
theorem valid_iff (r : Int) : Lib.validRune r = true ↔ (0 ≤ r ∧ r < 55296) ∨ (57343 < r ∧ r ≤ 1114111) := by
  unfold Lib.validRune; rw [decide_eq_true_eq]

/-- The form of a rune: its bytes, of which none but the first goes on. -/
theorem enc_shape (r : Int) (h : Lib.validRune r = true) :
    (r < 128 ∧ ∃ b0 : UInt8, encodeRune r = [b0] ∧ (b0.toNat : Int) = r) ∨
    (128 ≤ r ∧ r < 2048 ∧ ∃ b0 b1 : UInt8, encodeRune r = [b0, b1] ∧ (b0.toNat : Int) = 192 + r / 64 ∧ (b1.toNat : Int) = 128 + r % 64) ∨
    (2048 ≤ r ∧ r < 65536 ∧ ∃ b0 b1 b2 : UInt8, encodeRune r = [b0, b1, b2] ∧ (b0.toNat : Int) = 224 + r / 4096 ∧ (b1.toNat : Int) = 128 + r / 64 % 64 ∧ (b2.toNat : Int) = 128 + r % 64) ∨
    (65536 ≤ r ∧ ∃ b0 b1 b2 b3 : UInt8, encodeRune r = [b0, b1, b2, b3] ∧ (b0.toNat : Int) = 240 + r / 262144 ∧ (b1.toNat : Int) = 128 + r / 4096 % 64 ∧ (b2.toNat : Int) = 128 + r / 64 % 64 ∧ (b3.toNat : Int) = 128 + r % 64) := by
  rw [valid_iff] at h
  by_cases h1 : r < 128
  · left
    exact ⟨h1, _, by rw [encodeRune, encodeRuneZ_one (by omega) (by omega)]; rfl, toNat_u8 _ (by omega) (by omega)⟩
  by_cases h2 : r < 2048
  · right; left
    exact ⟨by omega, h2, _, _, by rw [encodeRune, encodeRuneZ_two (by omega) (by omega)]; rfl, toNat_u8 _ (by omega) (by omega), toNat_u8 _ (by omega) (by omega)⟩
  by_cases h3 : r < 65536
  · right; right; left
    exact ⟨by omega, h3, _, _, _, by rw [encodeRune, encodeRuneZ_three (by omega)]; rfl, toNat_u8 _ (by omega) (by omega), toNat_u8 _ (by omega) (by omega), toNat_u8 _ (by omega) (by omega)⟩
  · right; right; right
    exact ⟨by omega, _, _, _, _, by rw [encodeRune, encodeRuneZ_four (by omega) (by omega)]; rfl, toNat_u8 _ (by omega) (by omega), toNat_u8 _ (by omega) (by omega), toNat_u8 _ (by omega) (by omega), toNat_u8 _ (by omega) (by omega)⟩

theorem dN1 (n b0 b1 b2 b3 : Nat) (h : b0 < 128) : decodeN n b0 b1 b2 b3 = (b0, 1) := by unfold decodeN; rw [if_pos h]
theorem dN2 (n b0 b1 b2 b3 : Nat) (h : b0 / 32 = 6 ∧ 1 < n ∧ b1 / 64 = 2 ∧ 128 ≤ b0 % 32 * 64 + b1 % 64) : decodeN n b0 b1 b2 b3 = (b0 % 32 * 64 + b1 % 64, 2) := by
  unfold decodeN; rw [if_neg (by omega), if_pos (by omega), if_pos (by omega)]
theorem dN3 (n b0 b1 b2 b3 c : Nat) (hc : b0 % 16 * 4096 + b1 % 64 * 64 + b2 % 64 = c) (h : b0 / 16 = 14 ∧ 2 < n ∧ b1 / 64 = 2 ∧ b2 / 64 = 2 ∧ 2048 ≤ c ∧ (c < 55296 ∨ 57344 ≤ c)) : decodeN n b0 b1 b2 b3 = (c, 3) := by
  unfold decodeN; rw [hc, if_neg (by omega), if_neg (by omega), if_pos (by omega), if_pos (by omega)]
theorem dN4 (n b0 b1 b2 b3 c : Nat) (hc : b0 % 8 * 262144 + b1 % 64 * 4096 + b2 % 64 * 64 + b3 % 64 = c) (h : b0 / 8 = 30 ∧ 3 < n ∧ b1 / 64 = 2 ∧ b2 / 64 = 2 ∧ b3 / 64 = 2 ∧ 65536 ≤ c ∧ c ≤ 1114111) : decodeN n b0 b1 b2 b3 = (c, 4) := by
  unfold decodeN; rw [hc, if_neg (by omega), if_neg (by omega), if_neg (by omega), if_pos (by omega), if_pos (by omega)]

/-- A rune's form is read as the rune, whatever follows. -/
theorem decode_enc (r : Int) (h : Lib.validRune r = true) (t : List UInt8) : decodeL (encodeRune r ++ t) = (r.toNat, (encodeRune r).length) := by
  have hv := (valid_iff r).1 h
  rcases enc_shape r h with ⟨c, b0, e, e0⟩ | ⟨c, c', b0, b1, e, e0, e1⟩ | ⟨c, c', b0, b1, b2, e, e0, e1, e2⟩ | ⟨c, b0, b1, b2, b3, e, e0, e1, e2, e3⟩
  · rw [e, decodeL_N]
    simp only [List.cons_append, List.nil_append, List.getD_cons_zero, List.getD_cons_succ, List.length_cons, List.length_nil]
    rw [dN1 _ _ _ _ _ (by omega)]
    exact Prod.ext (by dsimp only; omega) rfl
  · rw [e, decodeL_N]
    simp only [List.cons_append, List.nil_append, List.getD_cons_zero, List.getD_cons_succ, List.length_cons, List.length_nil]
    rw [dN2 _ _ _ _ _ (by omega)]
    exact Prod.ext (by dsimp only; omega) rfl
  · rw [e, decodeL_N]
    simp only [List.cons_append, List.nil_append, List.getD_cons_zero, List.getD_cons_succ, List.length_cons, List.length_nil]
    rw [dN3 _ _ _ _ _ r.toNat (by omega) (by omega)]
  · rw [e, decodeL_N]
    simp only [List.cons_append, List.nil_append, List.getD_cons_zero, List.getD_cons_succ, List.length_cons, List.length_nil]
    rw [dN4 _ _ _ _ _ r.toNat (by omega) (by omega)]

/-- A rune's form is a byte that does not go on, and bytes that do. -/
theorem enc_cont (r : Int) (h : Lib.validRune r = true) : ∃ b0 bs, encodeRune r = b0 :: bs ∧ ¬ contB b0 ∧ (∀ b ∈ bs, contB b) ∧ (bs = [] ↔ r < 128) := by
  have hv := (valid_iff r).1 h
  unfold contB
  rcases enc_shape r h with ⟨c, b0, e, e0⟩ | ⟨c, c', b0, b1, e, e0, e1⟩ | ⟨c, c', b0, b1, b2, e, e0, e1, e2⟩ | ⟨c, b0, b1, b2, b3, e, e0, e1, e2, e3⟩
  · exact ⟨b0, [], e, by omega, by simp, by simp [c]⟩
  · exact ⟨b0, [b1], e, by omega, by simp; omega, by simp; omega⟩
  · exact ⟨b0, [b1, b2], e, by omega, by simp; omega, by simp; omega⟩
  · exact ⟨b0, [b1, b2, b3], e, by omega, by simp; omega, by simp; omega⟩

theorem decN_facts (l : List UInt8) : Lib.validRune ((decodeL l).1 : Int) = true ∧ (decodeL l).2 ≤ 4 := by
  have k0 := (l.getD 0 0).toNat_lt
  rw [decodeL_N]
  unfold Lib.validRune
  rw [decide_eq_true_eq]
  rcases decodeN_shape l.length (l.getD 0 0).toNat (l.getD 1 0).toNat (l.getD 2 0).toNat (l.getD 3 0).toNat with ⟨c, e⟩ | ⟨c1, c2, c3, cv, e⟩ | ⟨c1, c2, c3, c4, cv, cs, e⟩ | ⟨c1, c2, c3, c4, c5, cv, cw, e⟩ | e
  all_goals (rw [e]; dsimp only; omega)

/-- A text that is not empty begins with an odd byte, or with a rune's form. -/
theorem dec_cases (l : List UInt8) (hne : l ≠ []) : decodeL l = odd ∨ ∃ (r : Int) (t : List UInt8), Lib.validRune r = true ∧ l = encodeRune r ++ t ∧ decodeL l = (r.toNat, (encodeRune r).length) := by
  by_cases h : (decodeL l).1 = 65533 ∧ (decodeL l).2 = 1
  · left; exact Prod.ext h.1 h.2
  · right
    have e := encode_decode l hne h
    have hv := (decN_facts l).1
    refine ⟨_, l.drop (decodeL l).2, hv, by rw [e, List.take_append_drop], ?_⟩
    rw [e, List.length_take, Nat.min_eq_left (decodeL_le l hne)]
    exact Prod.ext (by simp) rfl

/-- What a text is cut into where it begins: 'odd' goes with one byte. -/
theorem piece_odd (l : List UInt8) (_hne : l ≠ []) (h : decodeL l = odd) : piece l = l.take 1 := by
  unfold piece
  rw [h]
  rw [if_pos (show lowerF ((odd.1 : Nat) : Int) = ((odd.1 : Nat) : Int) by decide)]; rfl

theorem lower_valid (r : Int) (h : Lib.validRune r = true) : Lib.validRune (lowerF r) = true := by
  have hv := (valid_iff r).1 h
  by_cases e : lowerF r = r
  · rw [e]; exact h
  · rw [valid_iff]; have := lower_moves r (by omega) e; omega
theorem lower_len (r : Int) (h : Lib.validRune r = true) : (encodeRune (lowerF r)).length = (encodeRune r).length := by
  have hv := (valid_iff r).1 h
  by_cases e : lowerF r = r
  · rw [e]
  · have e1 : ∀ z, (encodeRune z).length = (encodeRuneZ z).length := fun z => by simp [encodeRune]
    rw [e1, e1]
    rcases lower_moves r (by omega) e with hm | hm
    · rw [encodeRuneZ_one (by omega) (by omega), encodeRuneZ_one (by omega) (by omega)]; rfl
    · rw [encodeRuneZ_two (by omega) (by omega), encodeRuneZ_two (by omega) (by omega)]; rfl
theorem piece_form (r : Int) (h : Lib.validRune r = true) (t : List UInt8) : piece (encodeRune r ++ t) = encodeRune (lowerF r) := by
  have hv := (valid_iff r).1 h
  unfold piece
  rw [decode_enc r h t]
  dsimp only
  rw [show ((r.toNat : Nat) : Int) = r from by omega]
  by_cases e : lowerF r = r
  · rw [if_pos e, e, List.take_left']; rfl
  · rw [if_neg e]
theorem fold_form (r : Int) (h : Lib.validRune r = true) (t : List UInt8) : foldL (encodeRune r ++ t) = encodeRune (lowerF r) ++ foldL t := by
  obtain ⟨b0, bs, e, _⟩ := enc_cont r h
  rw [foldL_step _ (by rw [e]; simp), piece_form r h t, decode_enc r h t, List.drop_left']; rfl
theorem fold_odd (b : UInt8) (t : List UInt8) (h : decodeL (b :: t) = odd) : foldL (b :: t) = b :: foldL t := by
  rw [foldL_step _ (by simp), piece_odd _ (by simp) h, h]; rfl
/-- What is folded is as long as the text. -/
theorem fold_length_n : ∀ (n : Nat) (l : List UInt8), l.length ≤ n → (foldL l).length = l.length
  | 0, l, h => by
    have : l = [] := List.eq_nil_of_length_eq_zero (by omega)
    subst this; rfl
  | n + 1, l, h => by
    cases l with
    | nil => rfl
    | cons b t =>
      rcases dec_cases (b :: t) (by simp) with ho | ⟨r, t', hr, e, hd⟩
      · rw [fold_odd b t ho, List.length_cons, List.length_cons, fold_length_n n t (by simpa using h)]
      · have hlen : (encodeRune r).length + t'.length = (b :: t).length := by rw [e, List.length_append]
        obtain ⟨b0, bs, e0, _⟩ := enc_cont r hr
        have ih := fold_length_n n t' (by rw [e0] at hlen; simp only [List.length_cons] at hlen h; omega)
        rw [e, fold_form r hr, List.length_append, List.length_append, ih, lower_len r hr]
theorem fold_length (l : List UInt8) : (foldL l).length = l.length := fold_length_n l.length l (Nat.le_refl _)

end FoldP
end
