/- Plain laws: a rune's form is read again, whatever follows; 'Fold' once more; 'Fold' of two texts. -/
import Derived.Test.YtfckomjbgopmaaaDoorFoldRunesP
namespace FoldP
open Go.Lib Go

def contB (b : UInt8) : Prop := 128 ≤ b.toNat ∧ b.toNat < 192

theorem toNat_u8 (z : Int) (h0 : 0 ≤ z) (h1 : z < 256) : ((z.toNat.toUInt8).toNat : Int) = z := by
  have : z.toNat.toUInt8.toNat = z.toNat % 256 := by simp
  rw [this]; omega
theorem valid_iff (r : Int) : Lib.validRune r = true ↔ (0 ≤ r ∧ r < 55296) ∨ (57343 < r ∧ r ≤ 1114111) := by
  unfold Lib.validRune; rw [decide_eq_true_eq]

/-- The form of a rune: its bytes, of which none but the first goes on. -/
theorem enc_shape (r : Int) (h : Lib.validRune r = true) :
    (r < 128 ∧ ∃ b0 : UInt8, encodeRune r = [b0] ∧ (b0.toNat : Int) = r) ∨
    (128 ≤ r ∧ r < 2048 ∧ ∃ b0 b1 : UInt8, encodeRune r = [b0, b1] ∧ (b0.toNat : Int) = 192 + r / 64 ∧ (b1.toNat : Int) = 128 + r % 64) ∨
    (2048 ≤ r ∧ r < 65536 ∧ ∃ b0 b1 b2 : UInt8, encodeRune r = [b0, b1, b2] ∧ (b0.toNat : Int) = 224 + r / 4096 ∧ (b1.toNat : Int) = 128 + r / 64 % 64 ∧ (b2.toNat : Int) = 128 + r % 64) ∨
    (65536 ≤ r ∧ ∃ b0 b1 b2 b3 : UInt8, encodeRune r = [b0, b1, b2, b3] ∧ (b0.toNat : Int) = 240 + r / 262144 ∧ (b1.toNat : Int) = 128 + r / 4096 % 64 ∧ (b2.toNat : Int) = 128 + r / 64 % 64 ∧ (b3.toNat : Int) = 128 + r % 64) := by
  rw [valid_iff] at h
  by_cases h1 : r < 128
  · left
    exact ⟨h1, _, by rw [encodeRune, encodeRuneZ_one (by omega) (by omega)]; rfl, toNat_u8 _ (by omega) (by omega)⟩
  by_cases h2 : r < 2048
  · right; left
    exact ⟨by omega, h2, _, _, by rw [encodeRune, encodeRuneZ_two (by omega) (by omega)]; rfl, toNat_u8 _ (by omega) (by omega), toNat_u8 _ (by omega) (by omega)⟩
  by_cases h3 : r < 65536
  · right; right; left
    exact ⟨by omega, h3, _, _, _, by rw [encodeRune, encodeRuneZ_three (by omega)]; rfl, toNat_u8 _ (by omega) (by omega), toNat_u8 _ (by omega) (by omega), toNat_u8 _ (by omega) (by omega)⟩
  · right; right; right
    exact ⟨by omega, _, _, _, _, by rw [encodeRune, encodeRuneZ_four (by omega) (by omega)]; rfl, toNat_u8 _ (by omega) (by omega), toNat_u8 _ (by omega) (by omega), toNat_u8 _ (by omega) (by omega), toNat_u8 _ (by omega) (by omega)⟩

theorem dN1 (n b0 b1 b2 b3 : Nat) (h : b0 < 128) : decodeN n b0 b1 b2 b3 = (b0, 1) := by unfold decodeN; rw [if_pos h]
theorem dN2 (n b0 b1 b2 b3 : Nat) (h : b0 / 32 = 6 ∧ 1 < n ∧ b1 / 64 = 2 ∧ 128 ≤ b0 % 32 * 64 + b1 % 64) : decodeN n b0 b1 b2 b3 = (b0 % 32 * 64 + b1 % 64, 2) := by
  unfold decodeN; rw [if_neg (by omega), if_pos (by omega), if_pos (by omega)]
theorem dN3 (n b0 b1 b2 b3 c : Nat) (hc : b0 % 16 * 4096 + b1 % 64 * 64 + b2 % 64 = c) (h : b0 / 16 = 14 ∧ 2 < n ∧ b1 / 64 = 2 ∧ b2 / 64 = 2 ∧ 2048 ≤ c ∧ (c < 55296 ∨ 57344 ≤ c)) : decodeN n b0 b1 b2 b3 = (c, 3) := by
  unfold decodeN; rw [hc, if_neg (by omega), if_neg (by omega), if_pos (by omega), if_pos (by omega)]
theorem dN4 (n b0 b1 b2 b3 c : Nat) (hc : b0 % 8 * 262144 + b1 % 64 * 4096 + b2 % 64 * 64 + b3 % 64 = c) (h : b0 / 8 = 30 ∧ 3 < n ∧ b1 / 64 = 2 ∧ b2 / 64 = 2 ∧ b3 / 64 = 2 ∧ 65536 ≤ c ∧ c ≤ 1114111) : decodeN n b0 b1 b2 b3 = (c, 4) := by
  unfold decodeN; rw [hc, if_neg (by omega), if_neg (by omega), if_neg (by omega), if_pos (by omega), if_pos (by omega)]

/-- A rune's form is read as the rune, whatever follows. -/
theorem decode_enc (r : Int) (h : Lib.validRune r = true) (t : List UInt8) : decodeL (encodeRune r ++ t) = (r.toNat, (encodeRune r).length) := by
  have hv := (valid_iff r).1 h
  rcases enc_shape r h with ⟨c, b0, e, e0⟩ | ⟨c, c', b0, b1, e, e0, e1⟩ | ⟨c, c', b0, b1, b2, e, e0, e1, e2⟩ | ⟨c, b0, b1, b2, b3, e, e0, e1, e2, e3⟩
  · rw [e, decodeL_N]
    simp only [List.cons_append, List.nil_append, List.getD_cons_zero, List.getD_cons_succ, List.length_cons, List.length_nil]
    rw [dN1 _ _ _ _ _ (by omega)]
    exact Prod.ext (by dsimp only; omega) rfl
  · rw [e, decodeL_N]
    simp only [List.cons_append, List.nil_append, List.getD_cons_zero, List.getD_cons_succ, List.length_cons, List.length_nil]
    rw [dN2 _ _ _ _ _ (by omega)]
    exact Prod.ext (by dsimp only; omega) rfl
  · rw [e, decodeL_N]
    simp only [List.cons_append, List.nil_append, List.getD_cons_zero, List.getD_cons_succ, List.length_cons, List.length_nil]
    rw [dN3 _ _ _ _ _ r.toNat (by omega) (by omega)]
  · rw [e, decodeL_N]
    simp only [List.cons_append, List.nil_append, List.getD_cons_zero, List.getD_cons_succ, List.length_cons, List.length_nil]
    rw [dN4 _ _ _ _ _ r.toNat (by omega) (by omega)]

/-- A rune's form is a byte that does not go on, and bytes that do. -/
theorem enc_cont (r : Int) (h : Lib.validRune r = true) : ∃ b0 bs, encodeRune r = b0 :: bs ∧ ¬ contB b0 ∧ (∀ b ∈ bs, contB b) ∧ (bs = [] ↔ r < 128) := by
  have hv := (valid_iff r).1 h
  unfold contB
  rcases enc_shape r h with ⟨c, b0, e, e0⟩ | ⟨c, c', b0, b1, e, e0, e1⟩ | ⟨c, c', b0, b1, b2, e, e0, e1, e2⟩ | ⟨c, b0, b1, b2, b3, e, e0, e1, e2, e3⟩
  · exact ⟨b0, [], e, by omega, by simp, by simp [c]⟩
  · exact ⟨b0, [b1], e, by omega, by simp; omega, by simp; omega⟩
  · exact ⟨b0, [b1, b2], e, by omega, by simp; omega, by simp; omega⟩
  · exact ⟨b0, [b1, b2, b3], e, by omega, by simp; omega, by simp; omega⟩

theorem decN_facts (l : List UInt8) : Lib.validRune ((decodeL l).1 : Int) = true ∧ (decodeL l).2 ≤ 4 := by
  have k0 := (l.getD 0 0).toNat_lt
  rw [decodeL_N]
  unfold Lib.validRune
  rw [decide_eq_true_eq]
  rcases decodeN_shape l.length (l.getD 0 0).toNat (l.getD 1 0).toNat (l.getD 2 0).toNat (l.getD 3 0).toNat with ⟨c, e⟩ | ⟨c1, c2, c3, cv, e⟩ | ⟨c1, c2, c3, c4, cv, cs, e⟩ | ⟨c1, c2, c3, c4, c5, cv, cw, e⟩ | e
  all_goals (rw [e]; dsimp only; omega)

/-- A text that is not empty begins with an odd byte, or with a rune's form. -/
theorem dec_cases (l : List UInt8) (hne : l ≠ []) : decodeL l = odd ∨ ∃ (r : Int) (t : List UInt8), Lib.validRune r = true ∧ l = encodeRune r ++ t ∧ decodeL l = (r.toNat, (encodeRune r).length) := by
  by_cases h : (decodeL l).1 = 65533 ∧ (decodeL l).2 = 1
  · left; exact Prod.ext h.1 h.2
  · right
    have e := encode_decode l hne h
    have hv := (decN_facts l).1
    refine ⟨_, l.drop (decodeL l).2, hv, by rw [e, List.take_append_drop], ?_⟩
    rw [e, List.length_take, Nat.min_eq_left (decodeL_le l hne)]
    exact Prod.ext (by simp) rfl

theorem odd_form (r : Int) (h : Lib.validRune r = true) (hr : (r.toNat, (encodeRune r).length) = odd) : False := by
  have hv := (valid_iff r).1 h
  unfold odd at hr
  injection hr with h1 h2
  have hr' : r = 65533 := by omega
  subst hr'
  revert h2; decide

theorem odd_cont (b : UInt8) (l : List UInt8) (h : contB b) : decodeL (b :: l) = odd := dec_odd _ (by left; exact h)

/-- What a text is cut into where it begins: 'odd' goes with one byte. -/
theorem piece_odd (l : List UInt8) (_hne : l ≠ []) (h : decodeL l = odd) : piece l = l.take 1 := by
  unfold piece
  rw [h]
  rw [if_pos (show lowerF ((odd.1 : Nat) : Int) = ((odd.1 : Nat) : Int) by decide)]; rfl

theorem lower_valid (r : Int) (h : Lib.validRune r = true) : Lib.validRune (lowerF r) = true := by
  have hv := (valid_iff r).1 h
  by_cases e : lowerF r = r
  · rw [e]; exact h
  · rw [valid_iff]; have := lower_moves r (by omega) e; omega
theorem lower_len (r : Int) (h : Lib.validRune r = true) : (encodeRune (lowerF r)).length = (encodeRune r).length := by
  have hv := (valid_iff r).1 h
  by_cases e : lowerF r = r
  · rw [e]
  · have e1 : ∀ z, (encodeRune z).length = (encodeRuneZ z).length := fun z => by simp [encodeRune]
    rw [e1, e1]
    rcases lower_moves r (by omega) e with hm | hm
    · rw [encodeRuneZ_one (by omega) (by omega), encodeRuneZ_one (by omega) (by omega)]; rfl
    · rw [encodeRuneZ_two (by omega) (by omega), encodeRuneZ_two (by omega) (by omega)]; rfl
theorem piece_form (r : Int) (h : Lib.validRune r = true) (t : List UInt8) : piece (encodeRune r ++ t) = encodeRune (lowerF r) := by
  have hv := (valid_iff r).1 h
  unfold piece
  rw [decode_enc r h t]
  dsimp only
  rw [show ((r.toNat : Nat) : Int) = r from by omega]
  by_cases e : lowerF r = r
  · rw [if_pos e, e, List.take_left']; rfl
  · rw [if_neg e]
theorem fold_form (r : Int) (h : Lib.validRune r = true) (t : List UInt8) : foldL (encodeRune r ++ t) = encodeRune (lowerF r) ++ foldL t := by
  obtain ⟨b0, bs, e, _⟩ := enc_cont r h
  rw [foldL_step _ (by rw [e]; simp), piece_form r h t, decode_enc r h t, List.drop_left']; rfl
theorem fold_odd (b : UInt8) (t : List UInt8) (h : decodeL (b :: t) = odd) : foldL (b :: t) = b :: foldL t := by
  rw [foldL_step _ (by simp), piece_odd _ (by simp) h, h]; rfl
theorem fold_cont (b : UInt8) (t : List UInt8) (h : contB b) : foldL (b :: t) = b :: foldL t := fold_odd b t (odd_cont b t h)

/-- What is folded begins with a byte that goes on just where the text did. -/
theorem fold_head (m : List UInt8) (c : UInt8) (u : List UInt8) (h : foldL m = c :: u) (hc : contB c) : ∃ m', m = c :: m' ∧ u = foldL m' := by
  cases m with
  | nil => cases h
  | cons b t =>
    rcases dec_cases (b :: t) (by simp) with ho | ⟨r, t', hr, e, _⟩
    · rw [fold_odd b t ho] at h
      injection h with h1 h2
      exact ⟨t, by rw [h1], h2.symm⟩
    · rw [e, fold_form r hr] at h
      obtain ⟨b0, bs, e0, hn, _⟩ := enc_cont _ (lower_valid r hr)
      rw [e0] at h
      injection h with h1 h2
      rw [h1] at hn
      exact (hn hc).elim
theorem fold_heads : ∀ (cs : List UInt8) (m u : List UInt8), foldL m = cs ++ u → (∀ c ∈ cs, contB c) → ∃ m', m = cs ++ m' ∧ u = foldL m'
  | [], m, u, h, _ => ⟨m, rfl, h.symm⟩
  | c :: cs, m, u, h, hc => by
    obtain ⟨m1, rfl, h1⟩ := fold_head m c (cs ++ u) h (hc c (by simp))
    obtain ⟨m', rfl, h2⟩ := fold_heads cs m1 u h1.symm (fun x hx => hc x (by simp [hx]))
    exact ⟨m', rfl, h2⟩

/-- An odd byte stays odd. -/
theorem odd_stays (b : UInt8) (t : List UInt8) (h : decodeL (b :: t) = odd) : decodeL (b :: foldL t) = odd := by
  rcases dec_cases (b :: foldL t) (by simp) with ho | ⟨r, t', hr, e, _⟩
  · exact ho
  · obtain ⟨b0, bs, e0, hn, hc, _⟩ := enc_cont r hr
    rw [e0] at e
    injection e with e1 e2
    obtain ⟨m', hm, _⟩ := fold_heads bs t t' e2 hc
    have : b :: t = encodeRune r ++ m' := by rw [e0, e1, hm]; rfl
    rw [this, decode_enc r hr] at h
    exact (odd_form r hr h).elim

theorem lower_image (r : Int) : lowerF r = r ∨ ((0x61 ≤ lowerF r ∧ lowerF r ≤ 0x7A) ∨ (0xE0 ≤ lowerF r ∧ lowerF r ≤ 0xFF) ∨ (0x3AC ≤ lowerF r ∧ lowerF r ≤ 0x3CE) ∨ (0x430 ≤ lowerF r ∧ lowerF r ≤ 0x45F) ∨ lowerF r = 0x4CF) ∨ (isB (lowerF r) ∧ lowerF r % 2 = 1) ∨ (isC (lowerF r) ∧ lowerF r % 2 = 0) := by
  unfold isB isC
  rw [lowerF_eq]
  repeat' split
  all_goals omega
theorem lower_lower (r : Int) : lowerF (lowerF r) = lowerF r := by
  rcases lower_image r with h | h | h | h
  · rw [h]; exact h
  · exact (low_id _ (by unfold isA; omega) (by unfold isB; omega) (by unfold isC; omega) (by omega) (by omega) (by omega) (by omega) (by omega) (by omega) (by omega)).symm
  · rw [← low_B _ h.1, stepF, if_neg (by omega)]
  · rw [← low_C _ h.1, stepF, if_neg (by omega)]
theorem fold_fold_n : ∀ (n : Nat) (l : List UInt8), l.length ≤ n → foldL (foldL l) = foldL l ∧ validD (foldL l) = validD l
  | 0, l, h => by
    have : l = [] := List.eq_nil_of_length_eq_zero (by omega)
    subst this; exact ⟨rfl, rfl⟩
  | n + 1, l, h => by
    cases l with
    | nil => exact ⟨rfl, rfl⟩
    | cons b t =>
      rcases dec_cases (b :: t) (by simp) with ho | ⟨r, t', hr, e, hd⟩
      · have ih := fold_fold_n n t (by simpa using h)
        rw [fold_odd b t ho]
        have ho' := odd_stays b t ho
        refine ⟨by rw [fold_odd _ _ ho', ih.1], ?_⟩
        rw [validD_step _ (by simp), validD_step (b :: t) (by simp), ho, ho']
        rfl
      · rw [e]
        have hlen : (encodeRune r).length + t'.length = (b :: t).length := by rw [e, List.length_append]
        obtain ⟨b0, bs, e0, _⟩ := enc_cont r hr
        obtain ⟨b1, bs1, e1, _⟩ := enc_cont _ (lower_valid r hr)
        have ih := fold_fold_n n t' (by rw [e0] at hlen; simp only [List.length_cons] at hlen h; omega)
        rw [fold_form r hr, fold_form _ (lower_valid r hr), lower_lower, ih.1]
        refine ⟨rfl, ?_⟩
        have hlv := lower_valid r hr
        rw [validD_step _ (by rw [e1]; simp), validD_step (encodeRune r ++ t') (by rw [e0]; simp), decode_enc _ hr, decode_enc _ hlv]
        dsimp only
        rw [if_neg (fun hh => odd_form _ hlv (Prod.ext hh.1 hh.2)), if_neg (fun hh => odd_form _ hr (Prod.ext hh.1 hh.2)), List.drop_left' rfl, List.drop_left' rfl]
        exact ih.2
theorem fold_fold (l : List UInt8) : foldL (foldL l) = foldL l := (fold_fold_n l.length l (Nat.le_refl _)).1
theorem fold_valid (l : List UInt8) : validD (foldL l) = validD l := (fold_fold_n l.length l (Nat.le_refl _)).2

/-- Two texts with a border between runes. -/
theorem fold_app_n : ∀ (n : Nat) (s t : List UInt8), s.length ≤ n → (validD s = true ∨ t = [] ∨ ¬ contB (t.getD 0 0)) → foldL (s ++ t) = foldL s ++ foldL t
  | 0, s, t, h, _ => by
    have : s = [] := List.eq_nil_of_length_eq_zero (by omega)
    subst this; rfl
  | n + 1, s, t, h, hb => by
    cases s with
    | nil => rfl
    | cons b s =>
      rcases dec_cases (b :: s) (by simp) with ho | ⟨r, s', hr, e, hd⟩
      · have hb' : t = [] ∨ ¬ contB (t.getD 0 0) := by
          rcases hb with hb | hb
          · rw [validD_step _ (by simp), ho] at hb; cases hb
          · exact hb
        rw [fold_odd b s ho]
        have ho' : decodeL (b :: (s ++ t)) = odd := by
          rcases dec_cases (b :: (s ++ t)) (by simp) with ho' | ⟨r, t', hr, e, _⟩
          · exact ho'
          · obtain ⟨b0, bs, e0, hn, hc, _⟩ := enc_cont r hr
            rw [e0] at e
            injection e with e1 e2
            rcases Nat.lt_or_ge s.length bs.length with hl | hl
            · exfalso
              have hx : bs[s.length]? = t[0]? := by
                have := congrArg (fun z => z[s.length]?) (show s ++ t = bs ++ t' from e2)
                simp only [List.getElem?_append_right (Nat.le_refl _), Nat.sub_self] at this
                rw [this, List.getElem?_append_left hl]
              rw [List.getElem?_eq_getElem hl] at hx
              have hcont := hc _ (List.getElem_mem hl)
              rcases hb' with rfl | hb'
              · cases hx
              · apply hb'
                rw [List.getD_eq_getElem?_getD, ← hx]
                exact hcont
            · have h3 : s = bs ++ s.drop bs.length := by
                have := congrArg (fun z => z.take bs.length) (show s ++ t = bs ++ t' from e2)
                simp only [List.take_append_of_le_length hl, List.take_left'] at this
                conv => lhs; rw [← List.take_append_drop bs.length s, this]
              have : b :: s = encodeRune r ++ s.drop bs.length := by rw [e0, e1, h3]; simp
              rw [this, decode_enc r hr] at ho
              exact (odd_form r hr ho).elim
        show foldL (b :: (s ++ t)) = _
        rw [fold_odd _ _ ho', fold_app_n n s t (by simpa using h) (.inr hb')]
        rfl
      · have hlen : (encodeRune r).length + s'.length = (b :: s).length := by rw [e, List.length_append]
        obtain ⟨b0, bs, e0, _⟩ := enc_cont r hr
        have hb' : validD s' = true ∨ t = [] ∨ ¬ contB (t.getD 0 0) := by
          rcases hb with hb | hb
          · left
            rw [e, validD_step _ (by rw [e0]; simp), decode_enc _ hr] at hb
            dsimp only at hb
            rw [if_neg (fun hh => odd_form _ hr (Prod.ext hh.1 hh.2)), List.drop_left' rfl] at hb
            exact hb
          · exact .inr hb
        rw [e, List.append_assoc, fold_form r hr, fold_form r hr, fold_app_n n s' t (by rw [e0] at hlen; simp only [List.length_cons] at hlen h; omega) hb', List.append_assoc]
theorem fold_app (s t : List UInt8) (h : validD s = true ∨ t = [] ∨ ¬ contB (t.getD 0 0)) : foldL (s ++ t) = foldL s ++ foldL t := fold_app_n s.length s t (Nat.le_refl _) h

/-- What is folded is as long as the text. -/
theorem fold_length_n : ∀ (n : Nat) (l : List UInt8), l.length ≤ n → (foldL l).length = l.length
  | 0, l, h => by
    have : l = [] := List.eq_nil_of_length_eq_zero (by omega)
    subst this; rfl
  | n + 1, l, h => by
    cases l with
    | nil => rfl
    | cons b t =>
      rcases dec_cases (b :: t) (by simp) with ho | ⟨r, t', hr, e, hd⟩
      · rw [fold_odd b t ho, List.length_cons, List.length_cons, fold_length_n n t (by simpa using h)]
      · have hlen : (encodeRune r).length + t'.length = (b :: t).length := by rw [e, List.length_append]
        obtain ⟨b0, bs, e0, _⟩ := enc_cont r hr
        have ih := fold_length_n n t' (by rw [e0] at hlen; simp only [List.length_cons] at hlen h; omega)
        rw [e, fold_form r hr, List.length_append, List.length_append, ih, lower_len r hr]
theorem fold_length (l : List UInt8) : (foldL l).length = l.length := fold_length_n l.length l (Nat.le_refl _)

/-- What is lowered stays in its class. -/
theorem lower_letter (r : Int) : letterF (lowerF r) = letterF r ∧ (lowerF r ≠ r → letterF r = true) := by
  by_cases h : lowerF r = r
  · rw [h]; exact ⟨rfl, fun e => (e rfl).elim⟩
  · have e1 : isLetter r := by
      rw [lowerF_eq] at h; unfold isLetter
      revert h
      repeat' split
      all_goals (intro h; omega)
    have e2 : isLetter (lowerF r) := by
      rw [lowerF_eq]; rw [lowerF_eq] at h; unfold isLetter
      revert h
      repeat' split
      all_goals (intro h; omega)
    rw [letter_true _ e1, letter_true _ e2]
    exact ⟨rfl, fun _ => rfl⟩
theorem lower_digit (r : Int) : digitF (lowerF r) = digitF r := by
  by_cases h : lowerF r = r
  · rw [h]
  · have e1 : ¬ isDigit r := by
      rw [lowerF_eq] at h; unfold isDigit
      revert h
      repeat' split
      all_goals (intro h; omega)
    have e2 : ¬ isDigit (lowerF r) := by
      rw [lowerF_eq]; rw [lowerF_eq] at h; unfold isDigit
      revert h
      repeat' split
      all_goals (intro h; omega)
    rw [digit_false _ e1, digit_false _ e2]
theorem lower_mark (r : Int) : markF (lowerF r) = markF r := by
  by_cases h : lowerF r = r
  · rw [h]
  · have e1 : ¬ isMark r := by
      rw [lowerF_eq] at h; unfold isMark
      revert h
      repeat' split
      all_goals (intro h; omega)
    have e2 : ¬ isMark (lowerF r) := by
      rw [lowerF_eq]; rw [lowerF_eq] at h; unfold isMark
      revert h
      repeat' split
      all_goals (intro h; omega)
    rw [mark_false _ e1, mark_false _ e2]

/-- The forms of some runes, one behind the other. -/
def formsL (rs : List Int) : List UInt8 := rs.flatMap encodeRune
theorem runes_forms : ∀ (rs : List Int) (p : Nat), (∀ r ∈ rs, Lib.validRune r = true) → (runesFrom p (formsL rs)).map (·.2) = rs ∧ validD (formsL rs) = true
  | [], p, _ => ⟨rfl, rfl⟩
  | r :: rs, p, h => by
    have hr := h r (by simp)
    have hv := (valid_iff r).1 hr
    have ih := runes_forms rs (p + (encodeRune r).length) (fun x hx => h x (by simp [hx]))
    obtain ⟨b0, bs, e0, _⟩ := enc_cont r hr
    have e : formsL (r :: rs) = encodeRune r ++ formsL rs := rfl
    have hne : encodeRune r ++ formsL rs ≠ [] := by rw [e0]; simp
    rw [e, runesFrom_step _ _ hne, validD_step _ hne, decode_enc r hr]
    dsimp only
    rw [List.drop_left' rfl, if_neg (fun hh => odd_form _ hr (Prod.ext hh.1 hh.2))]
    refine ⟨?_, ih.2⟩
    rw [List.map_cons, ih.1]
    congr 1
    omega
end FoldP
