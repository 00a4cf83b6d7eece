/- What the functions of the fold layer compute on texts, as plain Lean functions on lists of bytes (the model's own decoder: 'Lib.decodeL'). -/
import Derived.Lib.MapLaws
import Derived.Lib.ValidLaws
import Derived.Test.YtfckomjbgopmaaaDoorFoldPlain
namespace FoldP
open Go.Lib Go

theorem map_inj_toNat : ∀ (a b : List UInt8), a.map (fun x => (x.toNat : Int)) = b.map (fun x => (x.toNat : Int)) → a = b
  | [], [], _ => rfl
  | [], _ :: _, h => by simp at h
  | _ :: _, [], h => by simp at h
  | x :: a, y :: b, h => by
    simp only [List.map_cons, List.cons.injEq] at h
    have : x = y := UInt8.toNat_inj.1 (by omega)
    rw [this, map_inj_toNat a b h.2]

theorem enc_map (r : Int) : (encodeRune r).map (fun x => (x.toNat : Int)) = encodeRuneZ r := by
  unfold encodeRune
  rw [List.map_map]
  conv => rhs; rw [← List.map_id (encodeRuneZ r)]
  apply List.map_congr_left
  intro x hx
  have := encodeRuneZ_byte r x hx
  show ((x.toNat.toUInt8).toNat : Int) = x
  have e : x.toNat.toUInt8.toNat = x.toNat % 256 := by simp
  rw [e]; omega

theorem enc_iff (r : Int) (q : List UInt8) : encodeRune r = q ↔ encodeRuneZ r = q.map (fun x => (x.toNat : Int)) := by
  constructor
  · rintro rfl; exact (enc_map r).symm
  · intro h; apply map_inj_toNat; rw [enc_map, h]

def odd : Nat × Nat := (65533, 1)

/-- A first byte below 128 is the rune. -/
theorem dec_ascii (l : List UInt8) (h : (l.getD 0 0).toNat < 128) : decodeL l = ((l.getD 0 0).toNat, 1) := by
  rw [decodeL_N, decodeN, if_pos h]
/-- A first byte that opens no form. -/
theorem dec_odd (l : List UInt8) (h : (128 ≤ (l.getD 0 0).toNat ∧ (l.getD 0 0).toNat < 192) ∨ 248 ≤ (l.getD 0 0).toNat) : decodeL l = odd := by
  have k0 := (l.getD 0 0).toNat_lt
  rw [decodeL_N, decodeN, if_neg (by omega), if_neg (by omega), if_neg (by omega), if_neg (by omega)]; rfl
/-- Too few bytes. -/
theorem dec_short (l : List UInt8) (n : Nat) (h : (n = 2 ∧ 192 ≤ (l.getD 0 0).toNat ∧ (l.getD 0 0).toNat < 224) ∨ (n = 3 ∧ 224 ≤ (l.getD 0 0).toNat ∧ (l.getD 0 0).toNat < 240) ∨ (n = 4 ∧ 240 ≤ (l.getD 0 0).toNat ∧ (l.getD 0 0).toNat < 248))
    (hl : l.length < n) : decodeL l = odd := by
  rw [decodeL_N, decodeN, if_neg (by omega), if_neg (by omega), if_neg (by omega), if_neg (by omega)]; rfl

/-- What the document's answer holds against the text: the number out of the bytes, its form against them. -/
def acc (l : List UInt8) (r0 : Int) : Nat → Int
  | 0 => r0
  | k + 1 => acc l r0 k * 64 + ((l.getD (k + 1) 0).toNat % 64 : Nat)

def good (l : List UInt8) (r : Int) (n : Nat) : Bool := Lib.validRune r && decide (encodeRune r = l.take n)

theorem dec_two (l : List UInt8) (h : 192 ≤ (l.getD 0 0).toNat ∧ (l.getD 0 0).toNat < 224) (hl : 2 ≤ l.length) :
    (good l (acc l (((l.getD 0 0).toNat : Int) - 192) 1) 2 = true → decodeL l = ((acc l (((l.getD 0 0).toNat : Int) - 192) 1).toNat, 2) ∧ 0 ≤ acc l (((l.getD 0 0).toNat : Int) - 192) 1) ∧
    (good l (acc l (((l.getD 0 0).toNat : Int) - 192) 1) 2 = false → decodeL l = odd) := by
  have k0 := (l.getD 0 0).toNat_lt
  have k1 := (l.getD 1 0).toNat_lt
  rw [decodeL_N]
  unfold good
  rw [takeB l (by omega)]
  simp only [acc, enc_iff, List.map_cons, List.map_nil]
  generalize (l.getD 0 0).toNat = b0 at *
  generalize (l.getD 1 0).toNat = b1 at *
  generalize (l.getD 2 0).toNat = b2 at *
  generalize (l.getD 3 0).toNat = b3 at *
  have hd : decodeN l.length b0 b1 b2 b3 = if b1 / 64 = 2 ∧ 128 ≤ b0 % 32 * 64 + b1 % 64 then (b0 % 32 * 64 + b1 % 64, 2) else odd := by
    unfold decodeN odd
    rw [if_neg (by omega)]
    by_cases c : b1 / 64 = 2
    · rw [if_pos (by omega)]
      by_cases d : b0 % 32 * 64 + b1 % 64 ≥ 128
      · rw [if_pos d, if_pos ⟨c, d⟩]
      · rw [if_neg d, if_neg (by omega)]
    · rw [if_neg (by omega), if_neg (by omega), if_neg (by omega), if_neg (by omega)]
  rw [hd]
  have hv : Lib.validRune (((b0 : Int) - 192) * 64 + ((b1 % 64 : Nat) : Int)) = true := by unfold Lib.validRune; simp; omega
  rw [hv, Bool.true_and, decide_eq_true_eq, decide_eq_false_iff_not]
  by_cases c : 128 ≤ b0 % 32 * 64 + b1 % 64
  · rw [encodeRuneZ_two (by omega) (by omega)]
    simp only [List.cons.injEq, and_true]
    constructor
    · intro e; rw [if_pos (by omega)]; exact ⟨Prod.ext (by simp only; omega) rfl, by omega⟩
    · intro e; rw [if_neg (by omega)]
  · rw [encodeRuneZ_one (by omega) (by omega)]
    constructor
    · intro e; simp at e
    · intro e; rw [if_neg (by omega)]

theorem dec_three (l : List UInt8) (h : 224 ≤ (l.getD 0 0).toNat ∧ (l.getD 0 0).toNat < 240) (hl : 3 ≤ l.length) :
    (good l (acc l (((l.getD 0 0).toNat : Int) - 224) 2) 3 = true → decodeL l = ((acc l (((l.getD 0 0).toNat : Int) - 224) 2).toNat, 3) ∧ 0 ≤ acc l (((l.getD 0 0).toNat : Int) - 224) 2) ∧
    (good l (acc l (((l.getD 0 0).toNat : Int) - 224) 2) 3 = false → decodeL l = odd) := by
  have k0 := (l.getD 0 0).toNat_lt
  have k1 := (l.getD 1 0).toNat_lt
  have k2 := (l.getD 2 0).toNat_lt
  rw [decodeL_N]
  unfold good
  rw [takeC l (by omega)]
  simp only [acc, enc_iff, List.map_cons, List.map_nil]
  generalize (l.getD 0 0).toNat = b0 at *
  generalize (l.getD 1 0).toNat = b1 at *
  generalize (l.getD 2 0).toNat = b2 at *
  generalize (l.getD 3 0).toNat = b3 at *
  generalize hc : b0 % 16 * 4096 + b1 % 64 * 64 + b2 % 64 = c at *
  have hd : decodeN l.length b0 b1 b2 b3 = if b1 / 64 = 2 ∧ b2 / 64 = 2 ∧ 2048 ≤ c ∧ (c < 55296 ∨ 57344 ≤ c) then (c, 3) else odd := by
    unfold decodeN odd
    rw [if_neg (by omega), if_neg (by omega), hc]
    by_cases d : b1 / 64 = 2 ∧ b2 / 64 = 2
    · rw [if_pos (by omega)]
      by_cases e : 2048 ≤ c ∧ (c < 55296 ∨ 57344 ≤ c)
      · rw [if_pos (by omega), if_pos ⟨d.1, d.2, e⟩]
      · rw [if_neg (by omega), if_neg (by omega)]
    · rw [if_neg (by omega), if_neg (by omega), if_neg (by omega)]
  rw [hd]
  have hr : (((b0 : Int) - 224) * 64 + ((b1 % 64 : Nat) : Int)) * 64 + ((b2 % 64 : Nat) : Int) = (c : Int) := by omega
  rw [hr]
  have hc6 : c < 65536 := by omega
  by_cases hs : c < 55296 ∨ 57344 ≤ c
  · have hv : Lib.validRune (c : Int) = true := by unfold Lib.validRune; simp; omega
    rw [hv, Bool.true_and, decide_eq_true_eq, decide_eq_false_iff_not]
    by_cases h2 : 2048 ≤ c
    · rw [encodeRuneZ_three (by omega)]
      simp only [List.cons.injEq, and_true]
      constructor
      · intro e; rw [if_pos (by omega)]; exact ⟨Prod.ext (by simp only; omega) rfl, by omega⟩
      · intro e; rw [if_neg (by omega)]
    · have hlen : (encodeRuneZ (c : Int)).length ≤ 2 := by
        by_cases h1 : c < 128
        · rw [encodeRuneZ_one (by omega) (by omega)]; simp
        · rw [encodeRuneZ_two (by omega) (by omega)]; simp
      constructor
      · intro e; rw [e] at hlen; simp at hlen
      · intro e; rw [if_neg (by omega)]
  · have hv : Lib.validRune (c : Int) = false := by unfold Lib.validRune; simp; omega
    rw [hv, Bool.false_and]
    exact ⟨fun e => (Bool.noConfusion e), fun _ => by rw [if_neg (by omega)]⟩

theorem dec_four (l : List UInt8) (h : 240 ≤ (l.getD 0 0).toNat ∧ (l.getD 0 0).toNat < 248) (hl : 4 ≤ l.length) :
    (good l (acc l (((l.getD 0 0).toNat : Int) - 240) 3) 4 = true → decodeL l = ((acc l (((l.getD 0 0).toNat : Int) - 240) 3).toNat, 4) ∧ 0 ≤ acc l (((l.getD 0 0).toNat : Int) - 240) 3) ∧
    (good l (acc l (((l.getD 0 0).toNat : Int) - 240) 3) 4 = false → decodeL l = odd) := by
  have k0 := (l.getD 0 0).toNat_lt
  have k1 := (l.getD 1 0).toNat_lt
  have k2 := (l.getD 2 0).toNat_lt
  have k3 := (l.getD 3 0).toNat_lt
  rw [decodeL_N]
  unfold good
  rw [takeD l (by omega)]
  simp only [acc, enc_iff, List.map_cons, List.map_nil]
  generalize (l.getD 0 0).toNat = b0 at *
  generalize (l.getD 1 0).toNat = b1 at *
  generalize (l.getD 2 0).toNat = b2 at *
  generalize (l.getD 3 0).toNat = b3 at *
  generalize hc : b0 % 8 * 262144 + b1 % 64 * 4096 + b2 % 64 * 64 + b3 % 64 = c at *
  have hd : decodeN l.length b0 b1 b2 b3 = if b1 / 64 = 2 ∧ b2 / 64 = 2 ∧ b3 / 64 = 2 ∧ 65536 ≤ c ∧ c ≤ 1114111 then (c, 4) else odd := by
    unfold decodeN odd
    rw [if_neg (by omega), if_neg (by omega), if_neg (by omega), hc]
    by_cases d : b1 / 64 = 2 ∧ b2 / 64 = 2 ∧ b3 / 64 = 2
    · rw [if_pos (by omega)]
      by_cases e : 65536 ≤ c ∧ c ≤ 1114111
      · rw [if_pos (by omega), if_pos ⟨d.1, d.2.1, d.2.2, e⟩]
      · rw [if_neg (by omega), if_neg (by omega)]
    · rw [if_neg (by omega), if_neg (by omega)]
  rw [hd]
  have hr : ((((b0 : Int) - 240) * 64 + ((b1 % 64 : Nat) : Int)) * 64 + ((b2 % 64 : Nat) : Int)) * 64 + ((b3 % 64 : Nat) : Int) = (c : Int) := by omega
  rw [hr]
  by_cases hs : c < 55296 ∨ (57344 ≤ c ∧ c ≤ 1114111)
  · have hv : Lib.validRune (c : Int) = true := by unfold Lib.validRune; simp; omega
    rw [hv, Bool.true_and, decide_eq_true_eq, decide_eq_false_iff_not]
    by_cases h2 : 65536 ≤ c
    · rw [encodeRuneZ_four (by omega) (by omega)]
      simp only [List.cons.injEq, and_true]
      constructor
      · intro e; rw [if_pos (by omega)]; exact ⟨Prod.ext (by simp only; omega) rfl, by omega⟩
      · intro e; rw [if_neg (by omega)]
    · have hlen : (encodeRuneZ (c : Int)).length ≤ 3 := by
        by_cases h1 : c < 128
        · rw [encodeRuneZ_one (by omega) (by omega)]; simp
        · by_cases h3 : c < 2048
          · rw [encodeRuneZ_two (by omega) (by omega)]; simp
          · rw [encodeRuneZ_three (by omega)]; simp
      constructor
      · intro e; rw [e] at hlen; simp at hlen
      · intro e; rw [if_neg (by omega)]
  · have hv : Lib.validRune (c : Int) = false := by unfold Lib.validRune; simp; omega
    rw [hv, Bool.false_and]
    exact ⟨fun e => (Bool.noConfusion e), fun _ => by rw [if_neg (by omega)]⟩

/-- 'Next': the rune at a place, and how many bytes it has. -/
def nextF (l : List UInt8) (at_ : Int) : Int × Int :=
  if 0 ≤ at_ ∧ at_ < l.length then (((decodeL (l.drop at_.toNat)).1 : Int), ((decodeL (l.drop at_.toNat)).2 : Int)) else (0, 0)

end FoldP
