/- A piece of a text is cut into runes as the text is; two texts with a blank between. -/
import Derived.Test.YtfbedonphhiolaaDoorAnaRunP
namespace AnaP
open Go.Lib Go FoldP

/-! ### The decoder on a text that is cut short -/
def D2 (N b0 b1 : Nat) : Prop := b0 / 32 = 6 ∧ 1 < N ∧ b1 / 64 = 2 ∧ 128 ≤ b0 % 32 * 64 + b1 % 64
def ok3 (v : Nat) : Prop := v < 55296 ∨ (57344 ≤ v ∧ v ≤ 1114111)
def D3 (N b0 b1 b2 : Nat) : Prop := b0 / 16 = 14 ∧ 2 < N ∧ b1 / 64 = 2 ∧ b2 / 64 = 2 ∧ 2048 ≤ b0 % 16 * 4096 + b1 % 64 * 64 + b2 % 64 ∧ ok3 (b0 % 16 * 4096 + b1 % 64 * 64 + b2 % 64)
def D4 (N b0 b1 b2 b3 : Nat) : Prop := b0 / 8 = 30 ∧ 3 < N ∧ b1 / 64 = 2 ∧ b2 / 64 = 2 ∧ b3 / 64 = 2 ∧ 65536 ≤ b0 % 8 * 262144 + b1 % 64 * 4096 + b2 % 64 * 64 + b3 % 64 ∧ ok3 (b0 % 8 * 262144 + b1 % 64 * 4096 + b2 % 64 * 64 + b3 % 64)
theorem of_D1 {N b0 b1 b2 b3 : Nat} (h : b0 < 128) : decodeN N b0 b1 b2 b3 = (b0, 1) := by unfold decodeN; rw [if_pos h]
theorem of_D2 {N b0 b1 b2 b3 : Nat} (h : D2 N b0 b1) : decodeN N b0 b1 b2 b3 = (b0 % 32 * 64 + b1 % 64, 2) := by
  obtain ⟨h1, h2, h3, h4⟩ := h
  unfold decodeN; rw [if_neg (by omega), if_pos ⟨h1, h2, h3⟩, if_pos h4]
theorem of_D3 {N b0 b1 b2 b3 : Nat} (h : D3 N b0 b1 b2) : decodeN N b0 b1 b2 b3 = (b0 % 16 * 4096 + b1 % 64 * 64 + b2 % 64, 3) := by
  obtain ⟨h1, h2, h3, h4, h5, h6⟩ := h
  unfold decodeN; rw [if_neg (by omega), if_neg (by omega), if_pos ⟨h1, ⟨by omega, h3⟩, h2, h4⟩, if_pos ⟨h5, h6⟩]
theorem of_D4 {N b0 b1 b2 b3 : Nat} (h : D4 N b0 b1 b2 b3) : decodeN N b0 b1 b2 b3 = (b0 % 8 * 262144 + b1 % 64 * 4096 + b2 % 64 * 64 + b3 % 64, 4) := by
  obtain ⟨h1, h2, h3, h4, h5, h6, h7⟩ := h
  unfold decodeN; rw [if_neg (by omega), if_neg (by omega), if_neg (by omega), if_pos ⟨h1, ⟨by omega, h3⟩, ⟨by omega, h4⟩, h2, h5⟩, if_pos ⟨h6, h7⟩]
theorem of_D0 {N b0 b1 b2 b3 : Nat} (h : 128 ≤ b0) (h2 : ¬ D2 N b0 b1) (h3 : ¬ D3 N b0 b1 b2) (h4 : ¬ D4 N b0 b1 b2 b3) : decodeN N b0 b1 b2 b3 = (65533, 1) := by
  unfold decodeN; rw [if_neg (by omega)]
  by_cases c2 : b0 / 32 = 6 ∧ (1 < N ∧ b1 / 64 = 2)
  · rw [if_pos c2, if_neg (fun e => h2 ⟨c2.1, c2.2.1, c2.2.2, e⟩)]
  · rw [if_neg c2]
    by_cases c3 : b0 / 16 = 14 ∧ (1 < N ∧ b1 / 64 = 2) ∧ (2 < N ∧ b2 / 64 = 2)
    · rw [if_pos c3, if_neg (fun e => h3 ⟨c3.1, c3.2.2.1, c3.2.1.2, c3.2.2.2, e.1, e.2⟩)]
    · rw [if_neg c3]
      by_cases c4 : b0 / 8 = 30 ∧ (1 < N ∧ b1 / 64 = 2) ∧ (2 < N ∧ b2 / 64 = 2) ∧ (3 < N ∧ b3 / 64 = 2)
      · rw [if_pos c4, if_neg (fun e => h4 ⟨c4.1, c4.2.2.2.1, c4.2.1.2, c4.2.2.1.2, c4.2.2.2.2, e.1, e.2⟩)]
      · rw [if_neg c4]
/-- Two readings are one where the forms are. -/
theorem decodeN_same {N M b0 b1 b2 b3 c1 c2 c3 : Nat} (h2 : D2 N b0 b1 → D2 M b0 c1 ∧ b1 = c1) (h3 : D3 N b0 b1 b2 → D3 M b0 c1 c2 ∧ b1 = c1 ∧ b2 = c2) (h4 : D4 N b0 b1 b2 b3 → D4 M b0 c1 c2 c3 ∧ b1 = c1 ∧ b2 = c2 ∧ b3 = c3)
    (k2 : D2 M b0 c1 → D2 N b0 b1) (k3 : D3 M b0 c1 c2 → D3 N b0 b1 b2) (k4 : D4 M b0 c1 c2 c3 → D4 N b0 b1 b2 b3) : decodeN N b0 b1 b2 b3 = decodeN M b0 c1 c2 c3 := by
  by_cases a1 : b0 < 128
  · rw [of_D1 a1, of_D1 a1]
  · by_cases a2 : D2 N b0 b1
    · obtain ⟨e, rfl⟩ := h2 a2
      rw [of_D2 a2, of_D2 e]
    · by_cases a3 : D3 N b0 b1 b2
      · obtain ⟨e, rfl, rfl⟩ := h3 a3
        rw [of_D3 a3, of_D3 e]
      · by_cases a4 : D4 N b0 b1 b2 b3
        · obtain ⟨e, rfl, rfl, rfl⟩ := h4 a4
          rw [of_D4 a4, of_D4 e]
        · rw [of_D0 (by omega) a2 a3 a4, of_D0 (by omega) (fun h => a2 (k2 h)) (fun h => a3 (k3 h)) (fun h => a4 (k4 h))]
theorem decodeN_cut (N M n b0 b1 b2 b3 c1 c2 c3 : Nat) (hM : M = min n N) (e1 : 1 < n → c1 = b1) (e2 : 2 < n → c2 = b2) (e3 : 3 < n → c3 = b3) (h : (decodeN N b0 b1 b2 b3).2 ≤ n) : decodeN M b0 c1 c2 c3 = decodeN N b0 b1 b2 b3 := by
  refine (decodeN_same (fun a => ?_) (fun a => ?_) (fun a => ?_) (fun a => ?_) (fun a => ?_) (fun a => ?_)).symm
  · rw [of_D2 a] at h
    obtain rfl := e1 h
    unfold D2 at *; exact ⟨⟨a.1, by have := a.2.1; dsimp only at h; omega, a.2.2⟩, rfl⟩
  · rw [of_D3 a] at h
    dsimp only at h
    obtain rfl := e1 (by omega)
    obtain rfl := e2 (by omega)
    unfold D3 at *; exact ⟨⟨a.1, by have := a.2.1; omega, a.2.2⟩, rfl, rfl⟩
  · rw [of_D4 a] at h
    dsimp only at h
    obtain rfl := e1 (by omega)
    obtain rfl := e2 (by omega)
    obtain rfl := e3 (by omega)
    unfold D4 at *; exact ⟨⟨a.1, by have := a.2.1; omega, a.2.2⟩, rfl, rfl, rfl⟩
  · have := a.2.1
    obtain rfl := e1 (by omega)
    exact ⟨a.1, by omega, a.2.2⟩
  · have := a.2.1
    obtain rfl := e1 (by omega)
    obtain rfl := e2 (by omega)
    exact ⟨a.1, by omega, a.2.2⟩
  · have := a.2.1
    obtain rfl := e1 (by omega)
    obtain rfl := e2 (by omega)
    obtain rfl := e3 (by omega)
    exact ⟨a.1, by omega, a.2.2⟩
/-- Behind k bytes comes one that is no continuation byte, or nothing. -/
theorem decodeN_stop (N k b0 b1 b2 b3 c1 c2 c3 : Nat) (hk : 1 ≤ k) (e1 : 1 < k → c1 = b1) (e2 : 2 < k → c2 = b2) (e3 : 3 < k → c3 = b3) (hN : k < N) (s1 : k = 1 → b1 / 64 ≠ 2) (s2 : k = 2 → b2 / 64 ≠ 2) (s3 : k = 3 → b3 / 64 ≠ 2) : decodeN N b0 b1 b2 b3 = decodeN k b0 c1 c2 c3 := by
  refine decodeN_same (fun a => ?_) (fun a => ?_) (fun a => ?_) (fun a => ?_) (fun a => ?_) (fun a => ?_)
  · obtain ⟨a1, a2, a3, a4⟩ := a
    have k2 : 2 ≤ k := by
      rcases Nat.lt_or_ge 1 k with h | h
      · exact h
      · exact absurd a3 (s1 (by omega))
    obtain rfl := e1 (by omega)
    exact ⟨⟨a1, by omega, a3, a4⟩, rfl⟩
  · obtain ⟨a1, a2, a3, a4, a5⟩ := a
    have k3 : 3 ≤ k := by
      rcases (show k = 1 ∨ k = 2 ∨ 3 ≤ k by omega) with h | h | h
      · exact absurd a3 (s1 h)
      · exact absurd a4 (s2 h)
      · exact h
    obtain rfl := e1 (by omega)
    obtain rfl := e2 (by omega)
    exact ⟨⟨a1, by omega, a3, a4, a5⟩, rfl, rfl⟩
  · obtain ⟨a1, a2, a3, a4, a5, a6⟩ := a
    have k3 : 4 ≤ k := by
      rcases (show k = 1 ∨ k = 2 ∨ k = 3 ∨ 4 ≤ k by omega) with h | h | h | h
      · exact absurd a3 (s1 h)
      · exact absurd a4 (s2 h)
      · exact absurd a5 (s3 h)
      · exact h
    obtain rfl := e1 (by omega)
    obtain rfl := e2 (by omega)
    obtain rfl := e3 (by omega)
    exact ⟨⟨a1, by omega, a3, a4, a5, a6⟩, rfl, rfl, rfl⟩
  · have := a.2.1
    obtain rfl := e1 (by omega)
    exact ⟨a.1, by omega, a.2.2⟩
  · have := a.2.1
    obtain rfl := e1 (by omega)
    obtain rfl := e2 (by omega)
    exact ⟨a.1, by omega, a.2.2⟩
  · have := a.2.1
    obtain rfl := e1 (by omega)
    obtain rfl := e2 (by omega)
    obtain rfl := e3 (by omega)
    exact ⟨a.1, by omega, a.2.2⟩
theorem getD_take_lt {l : List UInt8} {n i : Nat} (h : i < n) : (l.take n).getD i 0 = l.getD i 0 := by
  rw [List.getD_eq_getElem?_getD, List.getD_eq_getElem?_getD, List.getElem?_take, if_pos h]
theorem getD_take_ge {l : List UInt8} {n i : Nat} (h : n ≤ i) : (l.take n).getD i 0 = 0 := by
  rw [List.getD_eq_getElem?_getD, List.getElem?_take, if_neg (by omega)]; rfl
theorem decodeL_take (l : List UInt8) (n : Nat) (hn : (decodeL l).2 ≤ n) : decodeL (l.take n) = decodeL l := by
  have h1 := decodeL_width l
  have h0 : 0 < n := Nat.lt_of_lt_of_le h1 hn
  rw [decodeL_N] at hn
  rw [decodeL_N (l.take n), decodeL_N l, List.length_take, getD_take_lt h0]
  exact decodeN_cut _ _ n _ _ _ _ _ _ _ rfl (fun h => by rw [getD_take_lt h]) (fun h => by rw [getD_take_lt h]) (fun h => by rw [getD_take_lt h]) hn

/-! ### The runes of a piece -/
/-- A piece of a text, between two of its runes. -/
def subL (l : List UInt8) (a b : Nat) : List UInt8 := (l.drop (posAt l a)).take (posAt l b - posAt l a)
theorem subL_len (l : List UInt8) (a b : Nat) : (subL l a b).length = posAt l b - posAt l a := by
  have := posAt_le l b
  simp [subL]; omega
theorem subL_drop (l : List UInt8) (a b k : Nat) : (subL l a b).drop k = (l.drop (posAt l a + k)).take (posAt l b - posAt l a - k) := by
  unfold subL; rw [List.drop_take, List.drop_drop]
/-- What is left of a piece, from its rune i on. -/
theorem runes_sub (l : List UInt8) (a b : Nat) (hab : a ≤ b) (hb : b ≤ nR l) : ∀ (f i : Nat), b - i ≤ f → a ≤ i → i ≤ b →
    (runesFrom (posAt l i - posAt l a) ((subL l a b).drop (posAt l i - posAt l a))).map (·.1) = ((List.range (b - i)).map fun k => posAt l (i + k) - posAt l a)
  | 0, i, hf, hi, hib => by
    obtain rfl : i = b := by omega
    rw [runesEnd _ _ (by rw [subL_len]; exact Nat.le_refl _)]; simp
  | f + 1, i, hf, hi, hib => by
    rcases Nat.lt_or_ge i b with h | h
    · have h1 := posAt_mono l a i hi (by omega)
      obtain ⟨h2, h3⟩ := posAt_next l i (by omega)
      have h4 := posAt_step l i (by omega)
      have h5 := posAt_mono l (i + 1) b (by omega) hb
      have e : (subL l a b).drop (posAt l i - posAt l a) = (l.drop (posAt l i)).take (posAt l b - posAt l i) := by
        rw [subL_drop, show posAt l a + (posAt l i - posAt l a) = posAt l i by omega, show posAt l b - posAt l a - (posAt l i - posAt l a) = posAt l b - posAt l i by omega]
      have hd : decodeL ((subL l a b).drop (posAt l i - posAt l a)) = decodeL (l.drop (posAt l i)) := by
        rw [e]; exact decodeL_take _ _ (by omega)
      rw [runesAt _ _ (by rw [subL_len]; omega), hd, List.map_cons]
      have ih := runes_sub l a b hab hb f (i + 1) (by omega) (by omega) (by omega)
      rw [show posAt l i - posAt l a + (decodeL (l.drop (posAt l i))).2 = posAt l (i + 1) - posAt l a by omega, ih]
      rw [show b - i = (b - (i + 1)) + 1 by omega, List.range_succ_eq_map, List.map_cons, List.map_map]
      simp only [Nat.add_zero, List.cons.injEq, true_and]
      apply List.map_congr_left
      intro k _
      simp only [Function.comp_apply]
      congr 2; omega
    · obtain rfl : i = b := by omega
      rw [runesEnd _ _ (by rw [subL_len]; exact Nat.le_refl _)]; simp
theorem sub_runes (l : List UInt8) (a b : Nat) (hab : a ≤ b) (hb : b ≤ nR l) : (runesL (subL l a b)).map (·.1) = (List.range (b - a)).map fun k => posAt l (a + k) - posAt l a := by
  have := runes_sub l a b hab hb (b - a) a (Nat.le_refl _) (Nat.le_refl _) hab
  rw [Nat.sub_self, List.drop_zero] at this
  exact this
theorem sub_nR (l : List UInt8) (a b : Nat) (hab : a ≤ b) (hb : b ≤ nR l) : nR (subL l a b) = b - a := by
  have := congrArg List.length (sub_runes l a b hab hb)
  simpa [nR] using this
theorem sub_posAt (l : List UInt8) (a b : Nat) (hab : a ≤ b) (hb : b ≤ nR l) (i : Nat) (hi : i ≤ b - a) : posAt (subL l a b) i = posAt l (a + i) - posAt l a := by
  have hn := sub_nR l a b hab hb
  rcases Nat.lt_or_ge i (b - a) with h | h
  · have h1 := runes_get (subL l a b) i (by omega)
    have h2 : ((runesL (subL l a b)).map (·.1))[i]? = some (posAt (subL l a b) i) := by rw [List.getElem?_map, h1]; rfl
    rw [sub_runes l a b hab hb, List.getElem?_map, List.getElem?_range h] at h2
    exact (Option.some.inj h2).symm
  · obtain rfl : i = b - a := by omega
    have h1 := posAt_end (subL l a b)
    rw [hn, subL_len] at h1
    rw [h1, show a + (b - a) = b by omega]
theorem extract_list (s : ByteArray) (x y : Nat) (hy : y ≤ s.size) : (s.extract x y).data.toList = (s.data.toList.drop x).take (y - x) := by
  rw [ByteArray.data_extract, Array.toList_extract, List.extract_eq_take_drop]
/-- A piece of a piece. -/
theorem extract_sub (s : ByteArray) (a b x y : Nat) (hxy : x ≤ y) (hy : a + y ≤ b) (hb : b ≤ s.size) : (s.extract a b).extract x y = s.extract (a + x) (a + y) := by
  apply ByteArray.ext
  rw [ByteArray.data_extract, ByteArray.data_extract, ByteArray.data_extract, Array.extract_extract]
  congr 1; omega
/-- The piece's own runes and text. -/
theorem sub_text (s : ByteArray) (a b : Nat) (hb : b ≤ nR s.data.toList) : (s.extract (posAt s.data.toList a) (posAt s.data.toList b)).data.toList = subL s.data.toList a b := by
  have := posAt_le s.data.toList b
  rw [extract_list _ _ _ (by simpa using this)]; rfl

/-! ### Two texts with a blank between -/
theorem getD_app_lt {x y : List UInt8} {i : Nat} (h : i < x.length) : (x ++ y).getD i 0 = x.getD i 0 := by
  rw [List.getD_eq_getElem?_getD, List.getD_eq_getElem?_getD, List.getElem?_append_left h]
theorem getD_app_at {x y : List UInt8} {i : Nat} (h : i = x.length) : (x ++ 32 :: y).getD i 0 = 32 := by
  subst h
  rw [List.getD_eq_getElem?_getD, List.getElem?_append_right (Nat.le_refl _), Nat.sub_self]; rfl
theorem decodeL_blank (x y : List UInt8) (hx : x ≠ []) : decodeL (x ++ 32 :: y) = decodeL x := by
  have hl : 0 < x.length := List.length_pos_iff.2 hx
  have z : (32 : UInt8).toNat / 64 ≠ 2 := by decide
  rw [decodeL_N, decodeL_N x, List.length_append, List.length_cons, getD_app_lt (i := 0) hl]
  exact decodeN_stop _ x.length _ _ _ _ _ _ _ hl (fun h => by rw [getD_app_lt h]) (fun h => by rw [getD_app_lt h]) (fun h => by rw [getD_app_lt h]) (by omega)
    (fun h => by rw [getD_app_at h.symm]; exact z) (fun h => by rw [getD_app_at h.symm]; exact z) (fun h => by rw [getD_app_at h.symm]; exact z)
theorem runesFrom_shift : ∀ (f p : Nat) (l : List UInt8), l.length ≤ f → runesFrom p l = (runesL l).map fun x => (p + x.1, x.2)
  | 0, p, l, h => by
    have : l = [] := List.eq_nil_of_length_eq_zero (by omega)
    subst this; rfl
  | f + 1, p, l, h => by
    by_cases hne : l = []
    · subst hne; rfl
    · have hw := decodeL_width l
      have hl : 0 < l.length := List.length_pos_iff.2 hne
      unfold runesL
      rw [runesFrom_step p l hne, runesFrom_step 0 l hne, List.map_cons]
      rw [runesFrom_shift f (p + (decodeL l).2) _ (by rw [List.length_drop]; omega), runesFrom_shift f (0 + (decodeL l).2) _ (by rw [List.length_drop]; omega), List.map_map]
      simp only [Nat.add_zero, List.cons.injEq, true_and]
      apply List.map_congr_left
      intro x _
      simp only [Function.comp_apply, Prod.mk.injEq, and_true]; omega
theorem runesFrom_blank : ∀ (f p : Nat) (x y : List UInt8), x.length ≤ f → runesFrom p (x ++ 32 :: y) = runesFrom p x ++ (p + x.length, 32) :: runesFrom (p + x.length + 1) y
  | 0, p, x, y, h => by
    have : x = [] := List.eq_nil_of_length_eq_zero (by omega)
    subst this
    have hd : decodeL ((32 : UInt8) :: y) = (32, 1) := decodeL_ascii 32 y (by decide)
    rw [List.nil_append, runesFrom_step p _ (by simp), hd]; rfl
  | f + 1, p, x, y, h => by
    by_cases hne : x = []
    · subst hne
      have hd : decodeL ((32 : UInt8) :: y) = (32, 1) := decodeL_ascii 32 y (by decide)
      rw [List.nil_append, runesFrom_step p _ (by simp), hd]; rfl
    · have hw := decodeL_width x
      have hl := decodeL_le x hne
      rw [runesFrom_step p _ (by simp), decodeL_blank x y hne, List.drop_append_of_le_length hl, runesFrom_blank f _ _ y (by rw [List.length_drop]; omega), runesFrom_step p x hne, List.length_drop]
      rw [List.cons_append, show p + (decodeL x).2 + (x.length - (decodeL x).2) = p + x.length by omega]
theorem runesL_blank (x y : List UInt8) : runesL (x ++ 32 :: y) = runesL x ++ (x.length, 32) :: (runesL y).map fun z => (x.length + 1 + z.1, z.2) := by
  unfold runesL
  rw [runesFrom_blank x.length 0 x y (Nat.le_refl _), runesFrom_shift y.length (0 + x.length + 1) y (Nat.le_refl _), Nat.zero_add]; rfl
theorem runeL_blank (x y : List UInt8) : runeL (x ++ 32 :: y) = runeL x ++ 32 :: runeL y := by
  unfold runeL
  rw [runesL_blank, List.map_append, List.map_cons, List.map_map]; rfl
theorem nR_blank (x y : List UInt8) : nR (x ++ 32 :: y) = nR x + 1 + nR y := by
  unfold nR; rw [runesL_blank]; simp; omega
theorem posAt_of (l : List UInt8) (i : Nat) {p : Nat} (h : (posL l)[i]? = some p) : posAt l i = p := by
  unfold posAt; rw [List.getD_eq_getElem?_getD, h]; rfl
theorem posL_blank (x y : List UInt8) : posL (x ++ 32 :: y) = (runesL x).map (·.1) ++ x.length :: (posL y).map (x.length + 1 + ·) := by
  unfold posL posFrom
  rw [List.drop_zero, List.drop_zero, show runesFrom 0 (x ++ 32 :: y) = runesL (x ++ 32 :: y) from rfl, runesL_blank, List.map_append, List.map_cons, List.map_map]
  simp only [List.append_assoc, List.cons_append, List.map_append, List.map_map, List.map_cons, List.map_nil, List.length_append, List.length_cons, List.append_cancel_left_eq, List.cons.injEq, true_and]
  rw [show x.length + (y.length + 1) = x.length + 1 + y.length by omega]; rfl
theorem posAt_blank_l (x y : List UInt8) (i : Nat) (h : i ≤ nR x) : posAt (x ++ 32 :: y) i = posAt x i := by
  refine posAt_of _ _ ?_
  rw [posL_blank]
  rcases Nat.lt_or_ge i (nR x) with h1 | h1
  · rw [List.getElem?_append_left (by simpa [nR] using h1), List.getElem?_map, runes_get x i h1]; rfl
  · obtain rfl : i = nR x := by omega
    rw [List.getElem?_append_right (by simp [nR]), posAt_end]; simp [nR]
theorem posAt_blank_r (x y : List UInt8) (i : Nat) (h : i ≤ nR y) : posAt (x ++ 32 :: y) (nR x + 1 + i) = x.length + 1 + posAt y i := by
  refine posAt_of _ _ ?_
  have hl : ((runesL x).map (·.1)).length = nR x := by simp [nR]
  rw [posL_blank, List.getElem?_append_right (by omega), hl, show nR x + 1 + i - nR x = i + 1 by omega, List.getElem?_cons_succ, List.getElem?_map, posAt_get y i h]; rfl
theorem runIx_shift (may begins : Int → Bool) (d : Nat) : ∀ (l : List Int) (j : Nat) (fr : Option Nat), runIx may begins l (j + d) (fr.map (· + d)) = (runIx may begins l j fr).map fun c => (c.1 + d, c.2 + d)
  | [], j, none => rfl
  | [], j, some a => rfl
  | r :: l, j, none => by
    have h1 := runIx_shift may begins d l (j + 1) (some j)
    have h2 := runIx_shift may begins d l (j + 1) none
    rw [show j + 1 + d = j + d + 1 by omega] at h1 h2
    simp only [runIx, Option.map_none, Option.map_some] at *
    split
    · exact h1
    · exact h2
  | r :: l, j, some a => by
    have h1 := runIx_shift may begins d l (j + 1) (some a)
    have h2 := runIx_shift may begins d l (j + 1) none
    rw [show j + 1 + d = j + d + 1 by omega] at h1 h2
    simp only [runIx, Option.map_none, Option.map_some] at *
    split
    · exact h1
    · rw [h2]; rfl
theorem runIx_blank (may begins : Int → Bool) (hm : may 32 = false) : ∀ (x y : List Int) (j : Nat) (fr : Option Nat), runIx may begins (x ++ 32 :: y) j fr = runIx may begins x j fr ++ runIx may begins y (j + x.length + 1) none
  | [], y, j, none => by simp [runIx, hm]
  | [], y, j, some a => by simp [runIx, hm]
  | r :: x, y, j, none => by
    have h1 := runIx_blank may begins hm x y (j + 1) (some j)
    have h2 := runIx_blank may begins hm x y (j + 1) none
    simp only [List.cons_append, runIx, List.length_cons] at *
    rw [show j + (x.length + 1) + 1 = j + 1 + x.length + 1 by omega]
    split
    · exact h1
    · exact h2
  | r :: x, y, j, some a => by
    have h1 := runIx_blank may begins hm x y (j + 1) (some a)
    have h2 := runIx_blank may begins hm x y (j + 1) none
    simp only [List.cons_append, runIx, List.length_cons] at *
    rw [show j + (x.length + 1) + 1 = j + 1 + x.length + 1 by omega]
    split
    · exact h1
    · rw [h2]; rfl
end AnaP
