/- How a number is written, as a plain Lean function; what is written is read again. -/
import Derived.Test.YtfckomjbgopmaaaGreatDoorPack18
namespace OrdP
open Go.Lib Go

/-- The k last digits of u. -/
def lowD : Nat → Nat → List UInt8
  | _, 0 => []
  | u, k + 1 => lowD (u / 10) k ++ [UInt8.ofNat (48 + u % 10)]
theorem lowD_length : ∀ (k u : Nat), (lowD u k).length = k
  | 0, _ => rfl
  | k + 1, u => by rw [lowD, List.length_append, lowD_length k]; rfl
theorem dig_nat (u : Nat) : (UInt8.ofNat (48 + u % 10)).toNat = 48 + u % 10 := by
  rw [UInt8.toNat_ofNat']; omega
theorem lowD_digits : ∀ (k u : Nat), (lowD u k).all digB = true
  | 0, _ => rfl
  | k + 1, u => by
    rw [lowD, List.all_append, lowD_digits k, Bool.true_and]
    simp only [List.all_cons, List.all_nil, Bool.and_true, digB]
    rw [dig_nat]; simp; omega
theorem lowD_val : ∀ (k u acc : Nat), valG acc (lowD u k) = acc * 10 ^ k + u % 10 ^ k
  | 0, u, acc => by
    show acc = acc * 10 ^ 0 + u % 10 ^ 0
    rw [Nat.pow_zero, Nat.mul_one, Nat.mod_one]; rfl
  | k + 1, u, acc => by
    rw [lowD, valG_append, lowD_val k]
    show (acc * 10 ^ k + u / 10 % 10 ^ k) * 10 + ((UInt8.ofNat (48 + u % 10)).toNat - 48) = _
    rw [dig_nat, Nat.pow_succ]
    have h : u % (10 ^ k * 10) = u % 10 + 10 * (u / 10 % 10 ^ k) := by rw [Nat.mul_comm, Nat.mod_mul]
    rw [h, Nat.add_mul, Nat.mul_assoc]
    omega
theorem lowD_add (u : Nat) : ∀ (k j : Nat), lowD u (j + k) = lowD (u / 10 ^ k) j ++ lowD u k
  | 0, j => by simp [lowD]
  | k + 1, j => by
    rw [← Nat.add_assoc, lowD, lowD, lowD_add (u / 10) k j, List.append_assoc, Nat.div_div_eq_div_mul, Nat.pow_succ, Nat.mul_comm]
theorem lowD_zero : ∀ k, lowD 0 k = zeros k
  | 0 => rfl
  | k + 1 => by
    rw [lowD, lowD_zero k]
    show List.replicate k 48 ++ [48] = List.replicate (k + 1) 48
    rw [List.replicate_succ']
theorem nd_one {u : Nat} (h : u < 10) : nDigits u = 1 := nDigits_small h
theorem decDigits_low : ∀ (n u : Nat), u < 10 ^ n → decDigits u = lowD u (nDigits u)
  | 0, u, h => by
    have : u = 0 := by simpa using h
    subst this
    rw [nd_one (by omega), decDigits, dif_pos (by omega)]; rfl
  | n + 1, u, h => by
    by_cases h1 : u < 10
    · rw [nd_one h1, decDigits, dif_pos h1, lowD, lowD, Nat.mod_eq_of_lt h1]; rfl
    · rw [decDigits, dif_neg h1, nDigits_big h1, lowD, decDigits_low n (u / 10) (by rw [Nat.pow_succ] at h; omega)]
theorem decDigits_eq_low (u : Nat) : decDigits u = lowD u (nDigits u) := decDigits_low (nDigits u) u (lt_pow_nDigits u)
/-- Digits with zeros in front. -/
theorem pad_low (u k : Nat) (h : nDigits u ≤ k) : lowD u k = zeros (k - nDigits u) ++ decDigits u := by
  obtain ⟨j, rfl⟩ := Nat.exists_eq_add_of_le h
  rw [Nat.add_comm, lowD_add, decDigits_eq_low, Nat.div_eq_of_lt (lt_pow_nDigits u), lowD_zero]
  congr 2; omega

/-- How many digits are written. -/
def wide (u scale : Nat) : Nat := max (scale + 1) (nDigits u)
def textU (u scale : Nat) : List UInt8 := lowD (u / 10 ^ scale) (wide u scale - scale) ++ (if scale = 0 then [] else 46 :: lowD u scale)
/-- How a number is written. -/
def textF (n : Int) (scale : Nat) : List UInt8 := (if n < 0 then [45] else []) ++ textU n.natAbs scale

theorem wide_le (u scale : Nat) : scale + 1 ≤ wide u scale ∧ nDigits u ≤ wide u scale := by unfold wide; omega
/-- The program's way: the digits, padded, cut where the point goes. -/
theorem text_pad (u scale : Nat) : zeros (wide u scale - nDigits u) ++ decDigits u = lowD (u / 10 ^ scale) (wide u scale - scale) ++ lowD u scale := by
  have h := wide_le u scale
  rw [← pad_low u _ h.2, ← lowD_add]
  congr 1; omega
theorem nd_pow (u : Nat) (h : 1 ≤ u) : 10 ^ (nDigits u - 1) ≤ u := by
  have key : ∀ n u, 1 ≤ u → u < 10 ^ n → 10 ^ (nDigits u - 1) ≤ u := by
    intro n
    induction n with
    | zero => intro u h1 h2; simp at h2; omega
    | succ n ih =>
      intro u h1 h2
      by_cases h3 : u < 10
      · rw [nd_one h3]; simpa using h1
      · rw [nDigits_big h3]
        have := ih (u / 10) (by omega) (by rw [Nat.pow_succ] at h2; omega)
        have hp := nDigits_pos (u / 10)
        obtain ⟨m, hm⟩ : ∃ m, nDigits (u / 10) = m + 1 := ⟨nDigits (u / 10) - 1, by omega⟩
        rw [hm] at this ⊢
        simp only [Nat.add_sub_cancel] at this ⊢
        rw [Nat.pow_succ]; omega
  exact key (nDigits u) u h (lt_pow_nDigits u)
theorem nd_le (u k : Nat) (h : u < 10 ^ k) (hk : 1 ≤ k) : nDigits u ≤ k := by
  rcases Nat.eq_zero_or_pos u with rfl | hu
  · rw [nd_one (by omega)]; exact hk
  · have := nd_pow u hu
    rcases Nat.lt_or_ge k (nDigits u) with h1 | h1
    · have := Nat.pow_le_pow_right (show 0 < 10 by omega) (show k ≤ nDigits u - 1 by omega)
      omega
    · exact h1
/-- The first digit of what has no zeros in front is none. -/
theorem low_head (u : Nat) (h : 10 ≤ u) (k : Nat) (hk : k + 1 = nDigits u) : (lowD u (k + 1)).getD 0 0 ≠ 48 := by
  have e := lowD_add u k 1
  rw [Nat.add_comm] at e
  rw [e]
  have h1 := nd_pow u (by omega)
  have h2 := lt_pow_nDigits u
  rw [← hk] at h1 h2
  simp only [Nat.add_sub_cancel] at h1
  have h3 : 1 ≤ u / 10 ^ k := by rw [Nat.le_div_iff_mul_le (Nat.pow_pos (by omega))]; omega
  have h4 : u / 10 ^ k < 10 := by rw [Nat.div_lt_iff_lt_mul (Nat.pow_pos (by omega))]; rw [Nat.pow_succ] at h2; omega
  show (lowD (u / 10 ^ k) 1 ++ lowD u k).getD 0 0 ≠ 48
  have e1 : lowD (u / 10 ^ k) 1 = [UInt8.ofNat (48 + u / 10 ^ k % 10)] := rfl
  rw [e1, List.cons_append, List.getD_cons_zero]
  intro e2
  have := congrArg UInt8.toNat e2
  rw [dig_nat] at this
  rw [Nat.mod_eq_of_lt h4] at this
  have e48 : (48 : UInt8).toNat = 48 := rfl
  omega
theorem head_low (u k : Nat) (hk : 1 ≤ k) (r : List UInt8) : ∃ c t, lowD u k ++ r = c :: t ∧ digB c = true := by
  have hd := lowD_digits k u
  have hl := lowD_length k u
  cases h : lowD u k with
  | nil => rw [h] at hl; simp at hl; omega
  | cons c t =>
    rw [h] at hd
    simp only [List.all_cons, Bool.and_eq_true] at hd
    exact ⟨c, t ++ r, rfl, hd.1⟩
theorem size_text (n : Int) (scale : Nat) : size (textF n scale) = textU n.natAbs scale ∧ below (textF n scale) = decide (n < 0) := by
  have hw := wide_le n.natAbs scale
  obtain ⟨c, t, e, hc⟩ := head_low (n.natAbs / 10 ^ scale) (wide n.natAbs scale - scale) (by omega) (if scale = 0 then [] else 46 :: lowD n.natAbs scale)
  have e' : textU n.natAbs scale = c :: t := e
  unfold size below textF
  by_cases h : n < 0
  · simp [h]
  · rw [if_neg h, List.nil_append, e']
    have hc' : c ≠ 45 := by intro e2; subst e2; revert hc; decide
    simp [h, hc']
/-- What is written is read again. -/
theorem dec_text (n : Int) (scale : Nat) (h0 : -9223372036854775808 ≤ n) (h1 : n ≤ 9223372036854775807) : decF (textF n scale) scale = some n := by
  obtain ⟨hs, hb⟩ := size_text n scale
  have hu : n.natAbs ≤ 9223372036854775808 := by omega
  have hnd : nDigits n.natAbs ≤ 19 := nd_le _ 19 (by omega) (by omega)
  have hw := wide_le n.natAbs scale
  have hwe : wide n.natAbs scale = scale + 1 ∨ wide n.natAbs scale = nDigits n.natAbs := by unfold wide; omega
  generalize hu' : n.natAbs = u at *
  have hcut : CutAt (size (textF n scale)) (lowD (u / 10 ^ scale) (wide u scale - scale)) (if scale = 0 then [] else lowD u scale) (decide (scale ≠ 0)) := by
    have hno : ∀ k v, (46 : UInt8) ∉ lowD v k := fun k v hm => by
      have := List.all_eq_true.1 (lowD_digits k v) _ hm; revert this; decide
    rw [hs]
    by_cases hz : scale = 0
    · left; subst hz; exact ⟨rfl, by simp [textU], rfl, by simp only [textU, if_true, List.append_nil]; exact hno _ _⟩
    · right; exact ⟨by simp [hz], by simp [textU, hz], hno _ _⟩
  rw [decF_cut _ _ _ _ _ hcut]
  have hlen : (if scale = 0 then ([] : List UInt8) else lowD u scale).length = scale := by by_cases hz : scale = 0 <;> simp [hz, lowD_length]
  have hdig : (if scale = 0 then ([] : List UInt8) else lowD u scale).all digB = true := by by_cases hz : scale = 0 <;> simp only [hz, if_true, if_false, lowD_digits]; rfl
  have hok : okP (lowD (u / 10 ^ scale) (wide u scale - scale)) (if scale = 0 then [] else lowD u scale) (decide (scale ≠ 0)) scale = true := by
    unfold okP digsF
    rw [hlen, hdig, lowD_digits, lowD_length]
    simp only [Bool.and_true, Bool.and_eq_true, decide_eq_true_eq, Bool.not_eq_true', Bool.and_eq_false_imp, decide_eq_false_iff_not, Bool.or_eq_true, ne_eq]
    refine ⟨⟨by omega, fun c1 => ?_⟩, ?_⟩
    · have hwn : wide u scale = nDigits u := by omega
      have hnd2 : nDigits u - scale = nDigits (u / 10 ^ scale) := by
        have h10 : ∀ s v, s < nDigits v → nDigits v - s = nDigits (v / 10 ^ s) := by
          intro s
          induction s with
          | zero => intro v _; simp
          | succ s ih =>
            intro v hv
            have h10 : ¬ v < 10 := by intro h; rw [nd_one h] at hv; omega
            have e1 := nDigits_big h10
            have h2 := ih (v / 10) (by omega)
            have e2 : v / 10 / 10 ^ s = v / 10 ^ (s + 1) := by rw [Nat.div_div_eq_div_mul, Nat.pow_succ, Nat.mul_comm]
            rw [e2] at h2
            omega
        exact h10 scale u (by omega)
      rw [hwn, hnd2] at c1 ⊢
      obtain ⟨k, hk⟩ : ∃ k, nDigits (u / 10 ^ scale) = k + 1 := ⟨nDigits (u / 10 ^ scale) - 1, by omega⟩
      have h10 : 10 ≤ u / 10 ^ scale := by
        rcases Nat.lt_or_ge (u / 10 ^ scale) 10 with h | h
        · rw [nd_one h] at c1; omega
        · exact h
      rw [hk]
      exact low_head _ h10 k hk.symm
    · by_cases hz : scale = 0
      · left; simpa using hz
      · right; omega
  rw [if_pos hok, hb, hlen, Nat.sub_self]
  have hval : val (lowD (u / 10 ^ scale) (wide u scale - scale) ++ (if scale = 0 then [] else lowD u scale) ++ zeros 0) = u := by
    have e : lowD (u / 10 ^ scale) (wide u scale - scale) ++ (if scale = 0 then [] else lowD u scale) ++ zeros 0 = lowD u (wide u scale) := by
      have e1 : (if scale = 0 then ([] : List UInt8) else lowD u scale) = lowD u scale := by by_cases hz : scale = 0 <;> simp [hz, lowD]
      rw [e1, show zeros 0 = [] from rfl, List.append_nil, ← lowD_add]
      congr 1; omega
    rw [e]
    unfold val
    rw [lowD_val, Nat.zero_mul, Nat.zero_add, Nat.mod_eq_of_lt]
    exact Nat.lt_of_lt_of_le (lt_pow_nDigits u) (Nat.pow_le_pow_right (by omega) hw.2)
  unfold fin
  rw [hval]
  by_cases hn : n < 0
  · simp only [hn, decide_true, if_true]; rw [if_pos (by omega)]; congr 1; omega
  · simp only [hn, decide_false, Bool.false_eq_true, if_false]; rw [if_pos (by omega)]; congr 1; omega

/-- The point stands where the scale says, and nowhere else. -/
theorem text_length (n : Int) (scale : Nat) : (textF n scale).length = (if n < 0 then 1 else 0) + (wide n.natAbs scale - scale) + (if scale = 0 then 0 else scale + 1) := by
  unfold textF textU
  rw [List.length_append, List.length_append, lowD_length]
  by_cases h : n < 0 <;> by_cases hz : scale = 0 <;> simp [h, hz, lowD_length] <;> omega
end OrdP
