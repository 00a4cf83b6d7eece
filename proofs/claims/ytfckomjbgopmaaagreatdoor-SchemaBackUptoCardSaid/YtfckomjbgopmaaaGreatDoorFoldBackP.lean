/- Plain laws: a rune's form is read again, whatever follows; 'Fold' once more; 'Fold' of two texts. -/
import Derived.Test.YtfckomjbgopmaaaGreatDoorPack6
namespace FoldP
open Go.Lib Go

def contB (b : UInt8) : Prop := 128 ≤ b.toNat ∧ b.toNat < 192

theorem toNat_u8 (z : Int) (h0 : 0 ≤ z) (h1 : z < 256) : ((z.toNat.toUInt8).toNat : Int) = z := by
  have : z.toNat.toUInt8.toNat = z.toNat % 256 := by simp
  rw [this]; omega
theorem valid_iff (r : Int) : Lib.validRune r = true ↔ (0 ≤ r ∧ r < 55296) ∨ (57343 < r ∧ r ≤ 1114111) := by
  unfold Lib.validRune; rw [decide_eq_true_eq]

/-- The form of a rune: its bytes, of which none but the first goes on. -/
theorem enc_shape (r : Int) (h : Lib.validRune r = true) :
    (r < 128 ∧ ∃ b0 : UInt8, encodeRune r = [b0] ∧ (b0.toNat : Int) = r) ∨
    (128 ≤ r ∧ r < 2048 ∧ ∃ b0 b1 : UInt8, encodeRune r = [b0, b1] ∧ (b0.toNat : Int) = 192 + r / 64 ∧ (b1.toNat : Int) = 128 + r % 64) ∨
    (2048 ≤ r ∧ r < 65536 ∧ ∃ b0 b1 b2 : UInt8, encodeRune r = [b0, b1, b2] ∧ (b0.toNat : Int) = 224 + r / 4096 ∧ (b1.toNat : Int) = 128 + r / 64 % 64 ∧ (b2.toNat : Int) = 128 + r % 64) ∨
    (65536 ≤ r ∧ ∃ b0 b1 b2 b3 : UInt8, encodeRune r = [b0, b1, b2, b3] ∧ (b0.toNat : Int) = 240 + r / 262144 ∧ (b1.toNat : Int) = 128 + r / 4096 % 64 ∧ (b2.toNat : Int) = 128 + r / 64 % 64 ∧ (b3.toNat : Int) = 128 + r % 64) := by
  rw [valid_iff] at h
  by_cases h1 : r < 128
  · left
    exact ⟨h1, _, by rw [encodeRune, encodeRuneZ_one (by omega) (by omega)]; rfl, toNat_u8 _ (by omega) (by omega)⟩
  by_cases h2 : r < 2048
  · right; left
    exact ⟨by omega, h2, _, _, by rw [encodeRune, encodeRuneZ_two (by omega) (by omega)]; rfl, toNat_u8 _ (by omega) (by omega), toNat_u8 _ (by omega) (by omega)⟩
  by_cases h3 : r < 65536
  · right; right; left
    exact ⟨by omega, h3, _, _, _, by rw [encodeRune, encodeRuneZ_three (by omega)]; rfl, toNat_u8 _ (by omega) (by omega), toNat_u8 _ (by omega) (by omega), toNat_u8 _ (by omega) (by omega)⟩
  · right; right; right
    exact ⟨by omega, _, _, _, _, by rw [encodeRune, encodeRuneZ_four (by omega) (by omega)]; rfl, toNat_u8 _ (by omega) (by omega), toNat_u8 _ (by omega) (by omega), toNat_u8 _ (by omega) (by omega), toNat_u8 _ (by omega) (by omega)⟩

theorem dN1 (n b0 b1 b2 b3 : Nat) (h : b0 < 128) : decodeN n b0 b1 b2 b3 = (b0, 1) := by unfold decodeN; rw [if_pos h]
theorem dN2 (n b0 b1 b2 b3 : Nat) (h : b0 / 32 = 6 ∧ 1 < n ∧ b1 / 64 = 2 ∧ 128 ≤ b0 % 32 * 64 + b1 % 64) : decodeN n b0 b1 b2 b3 = (b0 % 32 * 64 + b1 % 64, 2) := by
  unfold decodeN; rw [if_neg (by omega), if_pos (by omega), if_pos (by omega)]
theorem dN3 (n b0 b1 b2 b3 c : Nat) (hc : b0 % 16 * 4096 + b1 % 64 * 64 + b2 % 64 = c) (h : b0 / 16 = 14 ∧ 2 < n ∧ b1 / 64 = 2 ∧ b2 / 64 = 2 ∧ 2048 ≤ c ∧ (c < 55296 ∨ 57344 ≤ c)) : decodeN n b0 b1 b2 b3 = (c, 3) := by
  unfold decodeN; rw [hc, if_neg (by omega), if_neg (by omega), if_pos (by omega), if_pos (by omega)]
theorem dN4 (n b0 b1 b2 b3 c : Nat) (hc : b0 % 8 * 262144 + b1 % 64 * 4096 + b2 % 64 * 64 + b3 % 64 = c) (h : b0 / 8 = 30 ∧ 3 < n ∧ b1 / 64 = 2 ∧ b2 / 64 = 2 ∧ b3 / 64 = 2 ∧ 65536 ≤ c ∧ c ≤ 1114111) : decodeN n b0 b1 b2 b3 = (c, 4) := by
  unfold decodeN; rw [hc, if_neg (by omega), if_neg (by omega), if_neg (by omega), if_pos (by omega), if_pos (by omega)]

/-- A rune's form is read as the rune, whatever follows. -/
theorem decode_enc (r : Int) (h : Lib.validRune r = true) (t : List UInt8) : decodeL (encodeRune r ++ t) = (r.toNat, (encodeRune r).length) := by
  have hv := (valid_iff r).1 h
  rcases enc_shape r h with ⟨c, b0, e, e0⟩ | ⟨c, c', b0, b1, e, e0, e1⟩ | ⟨c, c', b0, b1, b2, e, e0, e1, e2⟩ | ⟨c, b0, b1, b2, b3, e, e0, e1, e2, e3⟩
  · rw [e, decodeL_N]
    simp only [List.cons_append, List.nil_append, List.getD_cons_zero, List.getD_cons_succ, List.length_cons, List.length_nil]
    rw [dN1 _ _ _ _ _ (by omega)]
    exact Prod.ext (by dsimp only; omega) rfl
  · rw [e, decodeL_N]
    simp only [List.cons_append, List.nil_append, List.getD_cons_zero, List.getD_cons_succ, List.length_cons, List.length_nil]
    rw [dN2 _ _ _ _ _ (by omega)]
    exact Prod.ext (by dsimp only; omega) rfl
  · rw [e, decodeL_N]
    simp only [List.cons_append, List.nil_append, List.getD_cons_zero, List.getD_cons_succ, List.length_cons, List.length_nil]
    rw [dN3 _ _ _ _ _ r.toNat (by omega) (by omega)]
  · rw [e, decodeL_N]
    simp only [List.cons_append, List.nil_append, List.getD_cons_zero, List.getD_cons_succ, List.length_cons, List.length_nil]
    rw [dN4 _ _ _ _ _ r.toNat (by omega) (by omega)]

/-- A rune's form is a byte that does not go on, and bytes that do. -/
theorem enc_cont (r : Int) (h : Lib.validRune r = true) : ∃ b0 bs, encodeRune r = b0 :: bs ∧ ¬ contB b0 ∧ (∀ b ∈ bs, contB b) ∧ (bs = [] ↔ r < 128) := by
  have hv := (valid_iff r).1 h
  unfold contB
  rcases enc_shape r h with ⟨c, b0, e, e0⟩ | ⟨c, c', b0, b1, e, e0, e1⟩ | ⟨c, c', b0, b1, b2, e, e0, e1, e2⟩ | ⟨c, b0, b1, b2, b3, e, e0, e1, e2, e3⟩
  · exact ⟨b0, [], e, by omega, by simp, by simp [c]⟩
  · exact ⟨b0, [b1], e, by omega, by simp; omega, by simp; omega⟩
  · exact ⟨b0, [b1, b2], e, by omega, by simp; omega, by simp; omega⟩
  · exact ⟨b0, [b1, b2, b3], e, by omega, by simp; omega, by simp; omega⟩

theorem decN_facts (l : List UInt8) : Lib.validRune ((decodeL l).1 : Int) = true ∧ (decodeL l).2 ≤ 4 := by
  have k0 := (l.getD 0 0).toNat_lt
  rw [decodeL_N]
  unfold Lib.validRune
  rw [decide_eq_true_eq]
  rcases decodeN_shape l.length (l.getD 0 0).toNat (l.getD 1 0).toNat (l.getD 2 0).toNat (l.getD 3 0).toNat with ⟨c, e⟩ | ⟨c1, c2, c3, cv, e⟩ | ⟨c1, c2, c3, c4, cv, cs, e⟩ | ⟨c1, c2, c3, c4, c5, cv, cw, e⟩ | e
  all_goals (rw [e]; dsimp only; omega)

/-- A text that is not empty begins with an odd byte, or with a rune's form. -/
theorem dec_cases (l : List UInt8) (hne : l ≠ []) : decodeL l = odd ∨ ∃ (r : Int) (t : List UInt8), Lib.validRune r = true ∧ l = encodeRune r ++ t ∧ decodeL l = (r.toNat, (encodeRune r).length) := by
  by_cases h : (decodeL l).1 = 65533 ∧ (decodeL l).2 = 1
  · left; exact Prod.ext h.1 h.2
  · right
    have e := encode_decode l hne h
    have hv := (decN_facts l).1
    refine ⟨_, l.drop (decodeL l).2, hv, by rw [e, List.take_append_drop], ?_⟩
    rw [e, List.length_take, Nat.min_eq_left (decodeL_le l hne)]
    exact Prod.ext (by simp) rfl

/-- What a text is cut into where it begins: 'odd' goes with one byte. -/
theorem piece_odd (l : List UInt8) (_hne : l ≠ []) (h : decodeL l = odd) : piece l = l.take 1 := by
  unfold piece
  rw [h]
  rw [if_pos (show lowerF ((odd.1 : Nat) : Int) = ((odd.1 : Nat) : Int) by decide)]; rfl

theorem lower_valid (r : Int) (h : Lib.validRune r = true) : Lib.validRune (lowerF r) = true := by
  have hv := (valid_iff r).1 h
  by_cases e : lowerF r = r
  · rw [e]; exact h
  · rw [valid_iff]; have := lower_moves r (by omega) e; omega
theorem lower_len (r : Int) (h : Lib.validRune r = true) : (encodeRune (lowerF r)).length = (encodeRune r).length := by
  have hv := (valid_iff r).1 h
  by_cases e : lowerF r = r
  · rw [e]
  · have e1 : ∀ z, (encodeRune z).length = (encodeRuneZ z).length := fun z => by simp [encodeRune]
    rw [e1, e1]
    rcases lower_moves r (by omega) e with hm | hm
    · rw [encodeRuneZ_one (by omega) (by omega), encodeRuneZ_one (by omega) (by omega)]; rfl
    · rw [encodeRuneZ_two (by omega) (by omega), encodeRuneZ_two (by omega) (by omega)]; rfl
theorem piece_form (r : Int) (h : Lib.validRune r = true) (t : List UInt8) : piece (encodeRune r ++ t) = encodeRune (lowerF r) := by
  have hv := (valid_iff r).1 h
  unfold piece
  rw [decode_enc r h t]
  dsimp only
  rw [show ((r.toNat : Nat) : Int) = r from by omega]
  by_cases e : lowerF r = r
  · rw [if_pos e, e, List.take_left']; rfl
  · rw [if_neg e]
theorem fold_form (r : Int) (h : Lib.validRune r = true) (t : List UInt8) : foldL (encodeRune r ++ t) = encodeRune (lowerF r) ++ foldL t := by
  obtain ⟨b0, bs, e, _⟩ := enc_cont r h
  rw [foldL_step _ (by rw [e]; simp), piece_form r h t, decode_enc r h t, List.drop_left']; rfl
theorem fold_odd (b : UInt8) (t : List UInt8) (h : decodeL (b :: t) = odd) : foldL (b :: t) = b :: foldL t := by
  rw [foldL_step _ (by simp), piece_odd _ (by simp) h, h]; rfl
/-- What is folded is as long as the text. -/
theorem fold_length_n : ∀ (n : Nat) (l : List UInt8), l.length ≤ n → (foldL l).length = l.length
  | 0, l, h => by
    have : l = [] := List.eq_nil_of_length_eq_zero (by omega)
    subst this; rfl
  | n + 1, l, h => by
    cases l with
    | nil => rfl
    | cons b t =>
      rcases dec_cases (b :: t) (by simp) with ho | ⟨r, t', hr, e, hd⟩
      · rw [fold_odd b t ho, List.length_cons, List.length_cons, fold_length_n n t (by simpa using h)]
      · have hlen : (encodeRune r).length + t'.length = (b :: t).length := by rw [e, List.length_append]
        obtain ⟨b0, bs, e0, _⟩ := enc_cont r hr
        have ih := fold_length_n n t' (by rw [e0] at hlen; simp only [List.length_cons] at hlen h; omega)
        rw [e, fold_form r hr, List.length_append, List.length_append, ih, lower_len r hr]
theorem fold_length (l : List UInt8) : (foldL l).length = l.length := fold_length_n l.length l (Nat.le_refl _)

end FoldP
