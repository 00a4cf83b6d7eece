/- What the functions of the fold layer compute, as plain Lean functions on numbers. What the functions of the fold layer compute on texts, as plain Lean functions on lists of bytes (the model's own decoder: 'Lib.decodeL'). -/
import Derived.Lib.MapLaws
import Derived.Lib.ValidLaws
section
namespace FoldP

def inB (r lo hi : Int) : Bool := decide (lo ≤ r) && decide (r ≤ hi)

def amongB (r : Int) : List Int → Bool
  | a :: b :: l => inB r a b || amongB r l
  | _ => false

def low1 : List Int := [0x41, 0x5A, 0xC0, 0xD6, 0xD8, 0xDE, 0x391, 0x3A1, 0x3A3, 0x3AB, 0x410, 0x42F]
def low2 : List Int := [0x100, 0x12F, 0x132, 0x137, 0x14A, 0x177, 0x460, 0x481, 0x48A, 0x4BF, 0x4D0, 0x52F]
def low3 : List Int := [0x139, 0x148, 0x179, 0x17E, 0x4C1, 0x4CE]

/-- The lower case of a number. -/
def lowerF (r : Int) : Int :=
  if amongB r low1 then r + 0x20
  else if amongB r low2 then r - r % 2 + 1
  else if amongB r low3 then r + r % 2
  else if inB r 0x388 0x38A then r + 0x25
  else if inB r 0x38E 0x38F then r + 0x3F
  else if inB r 0x400 0x40F then r + 0x50
  else if r = 0x178 then 0xFF
  else if r = 0x4C0 then 0x4CF
  else if r = 0x386 then 0x3AC
  else if r = 0x38C then 0x3CC
  else r

def letters : List Int := [0x41, 0x5A, 0x61, 0x7A, 0xAA, 0xAA, 0xB5, 0xB5, 0xBA, 0xBA, 0xC0, 0xD6, 0xD8, 0xF6, 0xF8, 0x2AF, 0x370, 0x373, 0x376, 0x377, 0x37B, 0x37D, 0x37F, 0x37F, 0x386, 0x386, 0x388, 0x38A, 0x38C, 0x38C, 0x38E, 0x3A1, 0x3A3, 0x3F5, 0x3F7, 0x481, 0x48A, 0x52F, 0x5D0, 0x5EA, 0x620, 0x64A, 0x904, 0x939, 0x3041, 0x3096, 0x30A1, 0x30FA, 0x4E00, 0x9FFF, 0xAC00, 0xD7A3]
def digits : List Int := [0x30, 0x39, 0x660, 0x669, 0x966, 0x96F, 0xFF10, 0xFF19]
def marks : List Int := [0x300, 0x36F, 0x483, 0x489, 0x591, 0x5BD, 0x64B, 0x65F, 0x93C, 0x93C, 0x20D0, 0x20F0, 0xFE20, 0xFE2F]
def letterF (r : Int) : Bool := amongB r letters
def digitF (r : Int) : Bool := amongB r digits
def markF (r : Int) : Bool := amongB r marks

theorem inB_true {r lo hi : Int} : inB r lo hi = true ↔ lo ≤ r ∧ r ≤ hi := by simp [inB]
theorem inB_false {r lo hi : Int} : inB r lo hi = false ↔ ¬ (lo ≤ r ∧ r ≤ hi) := by simp [inB]

/-- 'lowerF' with its tests as inequalities. -/
theorem lowerF_eq (r : Int) : lowerF r =
    if (0x41 ≤ r ∧ r ≤ 0x5A) ∨ (0xC0 ≤ r ∧ r ≤ 0xD6) ∨ (0xD8 ≤ r ∧ r ≤ 0xDE) ∨ (0x391 ≤ r ∧ r ≤ 0x3A1) ∨ (0x3A3 ≤ r ∧ r ≤ 0x3AB) ∨ (0x410 ≤ r ∧ r ≤ 0x42F) then r + 0x20
    else if (0x100 ≤ r ∧ r ≤ 0x12F) ∨ (0x132 ≤ r ∧ r ≤ 0x137) ∨ (0x14A ≤ r ∧ r ≤ 0x177) ∨ (0x460 ≤ r ∧ r ≤ 0x481) ∨ (0x48A ≤ r ∧ r ≤ 0x4BF) ∨ (0x4D0 ≤ r ∧ r ≤ 0x52F) then r - r % 2 + 1
    else if (0x139 ≤ r ∧ r ≤ 0x148) ∨ (0x179 ≤ r ∧ r ≤ 0x17E) ∨ (0x4C1 ≤ r ∧ r ≤ 0x4CE) then r + r % 2
    else if 0x388 ≤ r ∧ r ≤ 0x38A then r + 0x25
    else if 0x38E ≤ r ∧ r ≤ 0x38F then r + 0x3F
    else if 0x400 ≤ r ∧ r ≤ 0x40F then r + 0x50
    else if r = 0x178 then 0xFF
    else if r = 0x4C0 then 0x4CF
    else if r = 0x386 then 0x3AC
    else if r = 0x38C then 0x3CC
    else r := by
  unfold lowerF
  simp only [amongB, low1, low2, low3, inB, Bool.or_eq_true, Bool.and_eq_true, decide_eq_true_eq, Bool.false_eq_true, or_false]

def stepF (r odd : Int) : Int := if r % 2 = odd then r + 1 else r

def isA (r : Int) : Prop := (0x41 ≤ r ∧ r ≤ 0x5A) ∨ (0xC0 ≤ r ∧ r ≤ 0xD6) ∨ (0xD8 ≤ r ∧ r ≤ 0xDE) ∨ (0x391 ≤ r ∧ r ≤ 0x3A1) ∨ (0x3A3 ≤ r ∧ r ≤ 0x3AB) ∨ (0x410 ≤ r ∧ r ≤ 0x42F)
def isB (r : Int) : Prop := (0x100 ≤ r ∧ r ≤ 0x12F) ∨ (0x132 ≤ r ∧ r ≤ 0x137) ∨ (0x14A ≤ r ∧ r ≤ 0x177) ∨ (0x460 ≤ r ∧ r ≤ 0x481) ∨ (0x48A ≤ r ∧ r ≤ 0x4BF) ∨ (0x4D0 ≤ r ∧ r ≤ 0x52F)
def isC (r : Int) : Prop := (0x139 ≤ r ∧ r ≤ 0x148) ∨ (0x179 ≤ r ∧ r ≤ 0x17E) ∨ (0x4C1 ≤ r ∧ r ≤ 0x4CE)
theorem low_A (r : Int) (h : isA r) : r + 0x20 = lowerF r := by
  simp only [isA] at *
  rw [lowerF_eq, if_pos h]
theorem low_B (r : Int) (h : isB r) : stepF r 0 = lowerF r := by
  have a : ¬ isA r := by unfold isA isB at *; omega
  simp only [isA, isB] at *
  rw [lowerF_eq, if_neg a, if_pos h, stepF]; split <;> omega
theorem low_C (r : Int) (h : isC r) : stepF r 1 = lowerF r := by
  have a : ¬ isA r := by unfold isA isC at *; omega
  have b : ¬ isB r := by unfold isB isC at *; omega
  simp only [isA, isB, isC] at *
  rw [lowerF_eq, if_neg a, if_neg b, if_pos h, stepF]; split <;> omega
theorem low_D (r : Int) (h : 0x388 ≤ r ∧ r ≤ 0x38A) : r + 0x25 = lowerF r := by
  have a : ¬ isA r := by unfold isA; omega
  have b : ¬ isB r := by unfold isB; omega
  have c : ¬ isC r := by unfold isC; omega
  simp only [isA, isB, isC] at *
  rw [lowerF_eq, if_neg a, if_neg b, if_neg c, if_pos h]
theorem low_E (r : Int) (h : 0x38E ≤ r ∧ r ≤ 0x38F) : r + 0x3F = lowerF r := by
  have a : ¬ isA r := by unfold isA; omega
  have b : ¬ isB r := by unfold isB; omega
  have c : ¬ isC r := by unfold isC; omega
  simp only [isA, isB, isC] at *
  rw [lowerF_eq, if_neg a, if_neg b, if_neg c, if_neg (by omega), if_pos h]
theorem low_F (r : Int) (h : 0x400 ≤ r ∧ r ≤ 0x40F) : r + 0x50 = lowerF r := by
  have a : ¬ isA r := by unfold isA; omega
  have b : ¬ isB r := by unfold isB; omega
  have c : ¬ isC r := by unfold isC; omega
  simp only [isA, isB, isC] at *
  rw [lowerF_eq, if_neg a, if_neg b, if_neg c, if_neg (by omega), if_neg (by omega), if_pos h]
theorem low_178 : lowerF 0x178 = 0xFF := by decide
theorem low_4C0 : lowerF 0x4C0 = 0x4CF := by decide
theorem low_386 : lowerF 0x386 = 0x3AC := by decide
theorem low_38C : lowerF 0x38C = 0x3CC := by decide
theorem low_id (r : Int) (a : ¬ isA r) (b : ¬ isB r) (c : ¬ isC r) (d : ¬ (0x388 ≤ r ∧ r ≤ 0x38A)) (e : ¬ (0x38E ≤ r ∧ r ≤ 0x38F)) (f : ¬ (0x400 ≤ r ∧ r ≤ 0x40F))
    (g1 : ¬ r = 0x178) (g2 : ¬ r = 0x4C0) (g3 : ¬ r = 0x386) (g4 : ¬ r = 0x38C) : r = lowerF r := by
  simp only [isA, isB, isC] at *
  rw [lowerF_eq, if_neg a, if_neg b, if_neg c, if_neg d, if_neg e, if_neg f, if_neg g1, if_neg g2, if_neg g3, if_neg g4]

def isLetter (r : Int) : Prop := (0x41 ≤ r ∧ r ≤ 0x5A) ∨ (0x61 ≤ r ∧ r ≤ 0x7A) ∨ (0xAA ≤ r ∧ r ≤ 0xAA) ∨ (0xB5 ≤ r ∧ r ≤ 0xB5) ∨ (0xBA ≤ r ∧ r ≤ 0xBA) ∨ (0xC0 ≤ r ∧ r ≤ 0xD6) ∨ (0xD8 ≤ r ∧ r ≤ 0xF6) ∨ (0xF8 ≤ r ∧ r ≤ 0x2AF) ∨ (0x370 ≤ r ∧ r ≤ 0x373) ∨ (0x376 ≤ r ∧ r ≤ 0x377) ∨ (0x37B ≤ r ∧ r ≤ 0x37D) ∨ (0x37F ≤ r ∧ r ≤ 0x37F) ∨ (0x386 ≤ r ∧ r ≤ 0x386) ∨ (0x388 ≤ r ∧ r ≤ 0x38A) ∨ (0x38C ≤ r ∧ r ≤ 0x38C) ∨ (0x38E ≤ r ∧ r ≤ 0x3A1) ∨ (0x3A3 ≤ r ∧ r ≤ 0x3F5) ∨ (0x3F7 ≤ r ∧ r ≤ 0x481) ∨ (0x48A ≤ r ∧ r ≤ 0x52F) ∨ (0x5D0 ≤ r ∧ r ≤ 0x5EA) ∨ (0x620 ≤ r ∧ r ≤ 0x64A) ∨ (0x904 ≤ r ∧ r ≤ 0x939) ∨ (0x3041 ≤ r ∧ r ≤ 0x3096) ∨ (0x30A1 ≤ r ∧ r ≤ 0x30FA) ∨ (0x4E00 ≤ r ∧ r ≤ 0x9FFF) ∨ (0xAC00 ≤ r ∧ r ≤ 0xD7A3)
theorem letter_iff (r : Int) : letterF r = true ↔ isLetter r := by
  unfold letterF isLetter
  simp only [amongB, letters, inB, Bool.or_eq_true, Bool.and_eq_true, decide_eq_true_eq, Bool.false_eq_true, or_false]
theorem letter_true (r : Int) (h : isLetter r) : letterF r = true := (letter_iff r).2 h
theorem letter_false (r : Int) (h : ¬ isLetter r) : letterF r = false := by
  cases e : letterF r
  · rfl
  · exact absurd ((letter_iff r).1 e) h

def isDigit (r : Int) : Prop := (0x30 ≤ r ∧ r ≤ 0x39) ∨ (0x660 ≤ r ∧ r ≤ 0x669) ∨ (0x966 ≤ r ∧ r ≤ 0x96F) ∨ (0xFF10 ≤ r ∧ r ≤ 0xFF19)
theorem digit_iff (r : Int) : digitF r = true ↔ isDigit r := by
  unfold digitF isDigit
  simp only [amongB, digits, inB, Bool.or_eq_true, Bool.and_eq_true, decide_eq_true_eq, Bool.false_eq_true, or_false]
theorem digit_true (r : Int) (h : isDigit r) : digitF r = true := (digit_iff r).2 h
theorem digit_false (r : Int) (h : ¬ isDigit r) : digitF r = false := by
  cases e : digitF r
  · rfl
  · exact absurd ((digit_iff r).1 e) h

def isMark (r : Int) : Prop := (0x300 ≤ r ∧ r ≤ 0x36F) ∨ (0x483 ≤ r ∧ r ≤ 0x489) ∨ (0x591 ≤ r ∧ r ≤ 0x5BD) ∨ (0x64B ≤ r ∧ r ≤ 0x65F) ∨ (0x93C ≤ r ∧ r ≤ 0x93C) ∨ (0x20D0 ≤ r ∧ r ≤ 0x20F0) ∨ (0xFE20 ≤ r ∧ r ≤ 0xFE2F)
theorem mark_iff (r : Int) : markF r = true ↔ isMark r := by
  unfold markF isMark
  simp only [amongB, marks, inB, Bool.or_eq_true, Bool.and_eq_true, decide_eq_true_eq, Bool.false_eq_true, or_false]
theorem mark_true (r : Int) (h : isMark r) : markF r = true := (mark_iff r).2 h
theorem mark_false (r : Int) (h : ¬ isMark r) : markF r = false := by
  cases e : markF r
  · rfl
  · exact absurd ((mark_iff r).1 e) h

theorem among_step (r : Int) (zs : List Int) (k : Nat) (h : k + 1 < zs.length) : amongB r (zs.drop k) = (inB r (zs.getD k 0) (zs.getD (k + 1) 0) || amongB r (zs.drop (k + 2))) := by
  rw [List.drop_eq_getElem_cons (by omega), List.drop_eq_getElem_cons (by omega)]
  simp [amongB, List.getD_eq_getElem?_getD, List.getElem?_eq_getElem h, List.getElem?_eq_getElem (show k < zs.length by omega)]
theorem among_done (r : Int) (zs : List Int) (k : Nat) (h : ¬ k + 1 < zs.length) : amongB r (zs.drop k) = false := by
  have : (zs.drop k).length ≤ 1 := by simp; omega
  match hd : zs.drop k, this with
  | [], _ => rfl
  | [_], _ => rfl

def l904 : List Int := [0x388, 0x38A]
def l910 : List Int := [0x38E, 0x38F]
def l1024 : List Int := [0x400, 0x40F]
theorem among_low1 (r : Int) : amongB r low1 = true ↔ isA r := by
  simp only [amongB, low1, inB, isA, Bool.or_eq_true, Bool.and_eq_true, decide_eq_true_eq, Bool.false_eq_true, or_false]
theorem among_low2 (r : Int) : amongB r low2 = true ↔ isB r := by
  simp only [amongB, low2, inB, isB, Bool.or_eq_true, Bool.and_eq_true, decide_eq_true_eq, Bool.false_eq_true, or_false]
theorem among_low3 (r : Int) : amongB r low3 = true ↔ isC r := by
  simp only [amongB, low3, inB, isC, Bool.or_eq_true, Bool.and_eq_true, decide_eq_true_eq, Bool.false_eq_true, or_false]
theorem among_904 (r : Int) : amongB r l904 = true ↔ (0x388 ≤ r ∧ r ≤ 0x38A) := by
  simp only [amongB, l904, inB, Bool.or_eq_true, Bool.and_eq_true, decide_eq_true_eq, Bool.false_eq_true, or_false]
theorem among_910 (r : Int) : amongB r l910 = true ↔ (0x38E ≤ r ∧ r ≤ 0x38F) := by
  simp only [amongB, l910, inB, Bool.or_eq_true, Bool.and_eq_true, decide_eq_true_eq, Bool.false_eq_true, or_false]
theorem among_1024 (r : Int) : amongB r l1024 = true ↔ (0x400 ≤ r ∧ r ≤ 0x40F) := by
  simp only [amongB, l1024, inB, Bool.or_eq_true, Bool.and_eq_true, decide_eq_true_eq, Bool.false_eq_true, or_false]
theorem low_B' (r : Int) (h : isB r) : r - r % 2 + 1 = lowerF r := by
  have a : ¬ isA r := by unfold isA isB at *; omega
  simp only [isA, isB] at *
  rw [lowerF_eq, if_neg a, if_pos h]
theorem low_C' (r : Int) (h : isC r) : r + r % 2 = lowerF r := by
  have a : ¬ isA r := by unfold isA isC at *; omega
  have b : ¬ isB r := by unfold isB isC at *; omega
  simp only [isA, isB, isC] at *
  rw [lowerF_eq, if_neg a, if_neg b, if_pos h]

end FoldP
end
section
namespace FoldP
open Go.Lib Go

theorem map_inj_toNat : ∀ (a b : List UInt8), a.map (fun x => (x.toNat : Int)) = b.map (fun x => (x.toNat : Int)) → a = b
  | [], [], _ => rfl
  | [], _ :: _, h => by simp at h
  | _ :: _, [], h => by simp at h
  | x :: a, y :: b, h => by
    simp only [List.map_cons, List.cons.injEq] at h
    have : x = y := UInt8.toNat_inj.1 (by omega)
    rw [this, map_inj_toNat a b h.2]

theorem enc_map (r : Int) : (encodeRune r).map (fun x => (x.toNat : Int)) = encodeRuneZ r := by
  unfold encodeRune
  rw [List.map_map]
  conv => rhs; rw [← List.map_id (encodeRuneZ r)]
  apply List.map_congr_left
  intro x hx
  have := encodeRuneZ_byte r x hx
  show ((x.toNat.toUInt8).toNat : Int) = x
  have e : x.toNat.toUInt8.toNat = x.toNat % 256 := by simp
  rw [e]; omega

theorem enc_iff (r : Int) (q : List UInt8) : encodeRune r = q ↔ encodeRuneZ r = q.map (fun x => (x.toNat : Int)) := by
  constructor
  · rintro rfl; exact (enc_map r).symm
  · intro h; apply map_inj_toNat; rw [enc_map, h]

def odd : Nat × Nat := (65533, 1)

/-- A first byte below 128 is the rune. -/
theorem dec_ascii (l : List UInt8) (h : (l.getD 0 0).toNat < 128) : decodeL l = ((l.getD 0 0).toNat, 1) := by
  rw [decodeL_N, decodeN, if_pos h]
/-- A first byte that opens no form. -/
theorem dec_odd (l : List UInt8) (h : (128 ≤ (l.getD 0 0).toNat ∧ (l.getD 0 0).toNat < 192) ∨ 248 ≤ (l.getD 0 0).toNat) : decodeL l = odd := by
  have k0 := (l.getD 0 0).toNat_lt
  rw [decodeL_N, decodeN, if_neg (by omega), if_neg (by omega), if_neg (by omega), if_neg (by omega)]; rfl
/-- Too few bytes. -/
theorem dec_short (l : List UInt8) (n : Nat) (h : (n = 2 ∧ 192 ≤ (l.getD 0 0).toNat ∧ (l.getD 0 0).toNat < 224) ∨ (n = 3 ∧ 224 ≤ (l.getD 0 0).toNat ∧ (l.getD 0 0).toNat < 240) ∨ (n = 4 ∧ 240 ≤ (l.getD 0 0).toNat ∧ (l.getD 0 0).toNat < 248))
    (hl : l.length < n) : decodeL l = odd := by
  rw [decodeL_N, decodeN, if_neg (by omega), if_neg (by omega), if_neg (by omega), if_neg (by omega)]; rfl

/-- What the document's answer holds against the text: the number out of the bytes, its form against them. -/
def acc (l : List UInt8) (r0 : Int) : Nat → Int
  | 0 => r0
  | k + 1 => acc l r0 k * 64 + ((l.getD (k + 1) 0).toNat % 64 : Nat)

def good (l : List UInt8) (r : Int) (n : Nat) : Bool := Lib.validRune r && decide (encodeRune r = l.take n)

theorem dec_two (l : List UInt8) (h : 192 ≤ (l.getD 0 0).toNat ∧ (l.getD 0 0).toNat < 224) (hl : 2 ≤ l.length) :
    (good l (acc l (((l.getD 0 0).toNat : Int) - 192) 1) 2 = true → decodeL l = ((acc l (((l.getD 0 0).toNat : Int) - 192) 1).toNat, 2) ∧ 0 ≤ acc l (((l.getD 0 0).toNat : Int) - 192) 1) ∧
    (good l (acc l (((l.getD 0 0).toNat : Int) - 192) 1) 2 = false → decodeL l = odd) := by
  have k0 := (l.getD 0 0).toNat_lt
  have k1 := (l.getD 1 0).toNat_lt
  rw [decodeL_N]
  unfold good
  rw [takeB l (by omega)]
  simp only [acc, enc_iff, List.map_cons, List.map_nil]
  generalize (l.getD 0 0).toNat = b0 at *
  generalize (l.getD 1 0).toNat = b1 at *
  generalize (l.getD 2 0).toNat = b2 at *
  generalize (l.getD 3 0).toNat = b3 at *
  have hd : decodeN l.length b0 b1 b2 b3 = if b1 / 64 = 2 ∧ 128 ≤ b0 % 32 * 64 + b1 % 64 then (b0 % 32 * 64 + b1 % 64, 2) else odd := by
    unfold decodeN odd
    rw [if_neg (by omega)]
    by_cases c : b1 / 64 = 2
    · rw [if_pos (by omega)]
      by_cases d : b0 % 32 * 64 + b1 % 64 ≥ 128
      · rw [if_pos d, if_pos ⟨c, d⟩]
      · rw [if_neg d, if_neg (by omega)]
    · rw [if_neg (by omega), if_neg (by omega), if_neg (by omega), if_neg (by omega)]
  rw [hd]
  have hv : Lib.validRune (((b0 : Int) - 192) * 64 + ((b1 % 64 : Nat) : Int)) = true := by unfold Lib.validRune; simp; omega
  rw [hv, Bool.true_and, decide_eq_true_eq, decide_eq_false_iff_not]
  by_cases c : 128 ≤ b0 % 32 * 64 + b1 % 64
  · rw [encodeRuneZ_two (by omega) (by omega)]
    simp only [List.cons.injEq, and_true]
    constructor
    · intro e; rw [if_pos (by omega)]; exact ⟨Prod.ext (by simp only; omega) rfl, by omega⟩
    · intro e; rw [if_neg (by omega)]
  · rw [encodeRuneZ_one (by omega) (by omega)]
    constructor
    · intro e; simp at e
    · intro e; rw [if_neg (by omega)]

theorem dec_three (l : List UInt8) (h : 224 ≤ (l.getD 0 0).toNat ∧ (l.getD 0 0).toNat < 240) (hl : 3 ≤ l.length) :
    (good l (acc l (((l.getD 0 0).toNat : Int) - 224) 2) 3 = true → decodeL l = ((acc l (((l.getD 0 0).toNat : Int) - 224) 2).toNat, 3) ∧ 0 ≤ acc l (((l.getD 0 0).toNat : Int) - 224) 2) ∧
    (good l (acc l (((l.getD 0 0).toNat : Int) - 224) 2) 3 = false → decodeL l = odd) := by
  have k0 := (l.getD 0 0).toNat_lt
  have k1 := (l.getD 1 0).toNat_lt
  have k2 := (l.getD 2 0).toNat_lt
  rw [decodeL_N]
  unfold good
  rw [takeC l (by omega)]
  simp only [acc, enc_iff, List.map_cons, List.map_nil]
  generalize (l.getD 0 0).toNat = b0 at *
  generalize (l.getD 1 0).toNat = b1 at *
  generalize (l.getD 2 0).toNat = b2 at *
  generalize (l.getD 3 0).toNat = b3 at *
  generalize hc : b0 % 16 * 4096 + b1 % 64 * 64 + b2 % 64 = c at *
  have hd : decodeN l.length b0 b1 b2 b3 = if b1 / 64 = 2 ∧ b2 / 64 = 2 ∧ 2048 ≤ c ∧ (c < 55296 ∨ 57344 ≤ c) then (c, 3) else odd := by
    unfold decodeN odd
    rw [if_neg (by omega), if_neg (by omega), hc]
    by_cases d : b1 / 64 = 2 ∧ b2 / 64 = 2
    · rw [if_pos (by omega)]
      by_cases e : 2048 ≤ c ∧ (c < 55296 ∨ 57344 ≤ c)
      · rw [if_pos (by omega), if_pos ⟨d.1, d.2, e⟩]
      · rw [if_neg (by omega), if_neg (by omega)]
    · rw [if_neg (by omega), if_neg (by omega), if_neg (by omega)]
  rw [hd]
  have hr : (((b0 : Int) - 224) * 64 + ((b1 % 64 : Nat) : Int)) * 64 + ((b2 % 64 : Nat) : Int) = (c : Int) := by omega
  rw [hr]
  have hc6 : c < 65536 := by omega
  by_cases hs : c < 55296 ∨ 57344 ≤ c
  · have hv : Lib.validRune (c : Int) = true := by unfold Lib.validRune; simp; omega
    rw [hv, Bool.true_and, decide_eq_true_eq, decide_eq_false_iff_not]
    by_cases h2 : 2048 ≤ c
    · rw [encodeRuneZ_three (by omega)]
      simp only [List.cons.injEq, and_true]
      constructor
      · intro e; rw [if_pos (by omega)]; exact ⟨Prod.ext (by simp only; omega) rfl, by omega⟩
      · intro e; rw [if_neg (by omega)]
    · have hlen : (encodeRuneZ (c : Int)).length ≤ 2 := by
        by_cases h1 : c < 128
        · rw [encodeRuneZ_one (by omega) (by omega)]; simp
        · rw [encodeRuneZ_two (by omega) (by omega)]; simp
      constructor
      · intro e; rw [e] at hlen; simp at hlen
      · intro e; rw [if_neg (by omega)]
  · have hv : Lib.validRune (c : Int) = false := by unfold Lib.validRune; simp; omega
    rw [hv, Bool.false_and]
    exact ⟨fun e => (Bool.noConfusion e), fun _ => by rw [if_neg (by omega)]⟩

theorem dec_four (l : List UInt8) (h : 240 ≤ (l.getD 0 0).toNat ∧ (l.getD 0 0).toNat < 248) (hl : 4 ≤ l.length) :
    (good l (acc l (((l.getD 0 0).toNat : Int) - 240) 3) 4 = true → decodeL l = ((acc l (((l.getD 0 0).toNat : Int) - 240) 3).toNat, 4) ∧ 0 ≤ acc l (((l.getD 0 0).toNat : Int) - 240) 3) ∧
    (good l (acc l (((l.getD 0 0).toNat : Int) - 240) 3) 4 = false → decodeL l = odd) := by
  have k0 := (l.getD 0 0).toNat_lt
  have k1 := (l.getD 1 0).toNat_lt
  have k2 := (l.getD 2 0).toNat_lt
  have k3 := (l.getD 3 0).toNat_lt
  rw [decodeL_N]
  unfold good
  rw [takeD l (by omega)]
  simp only [acc, enc_iff, List.map_cons, List.map_nil]
  generalize (l.getD 0 0).toNat = b0 at *
  generalize (l.getD 1 0).toNat = b1 at *
  generalize (l.getD 2 0).toNat = b2 at *
  generalize (l.getD 3 0).toNat = b3 at *
  generalize hc : b0 % 8 * 262144 + b1 % 64 * 4096 + b2 % 64 * 64 + b3 % 64 = c at *
  have hd : decodeN l.length b0 b1 b2 b3 = if b1 / 64 = 2 ∧ b2 / 64 = 2 ∧ b3 / 64 = 2 ∧ 65536 ≤ c ∧ c ≤ 1114111 then (c, 4) else odd := by
    unfold decodeN odd
    rw [if_neg (by omega), if_neg (by omega), if_neg (by omega), hc]
    by_cases d : b1 / 64 = 2 ∧ b2 / 64 = 2 ∧ b3 / 64 = 2
    · rw [if_pos (by omega)]
      by_cases e : 65536 ≤ c ∧ c ≤ 1114111
      · rw [if_pos (by omega), if_pos ⟨d.1, d.2.1, d.2.2, e⟩]
      · rw [if_neg (by omega), if_neg (by omega)]
    · rw [if_neg (by omega), if_neg (by omega)]
  rw [hd]
  have hr : ((((b0 : Int) - 240) * 64 + ((b1 % 64 : Nat) : Int)) * 64 + ((b2 % 64 : Nat) : Int)) * 64 + ((b3 % 64 : Nat) : Int) = (c : Int) := by omega
  rw [hr]
  by_cases hs : c < 55296 ∨ (57344 ≤ c ∧ c ≤ 1114111)
  · have hv : Lib.validRune (c : Int) = true := by unfold Lib.validRune; simp; omega
    rw [hv, Bool.true_and, decide_eq_true_eq, decide_eq_false_iff_not]
    by_cases h2 : 65536 ≤ c
    · rw [encodeRuneZ_four (by omega) (by omega)]
      simp only [List.cons.injEq, and_true]
      constructor
      · intro e; rw [if_pos (by omega)]; exact ⟨Prod.ext (by simp only; omega) rfl, by omega⟩
      · intro e; rw [if_neg (by omega)]
    · have hlen : (encodeRuneZ (c : Int)).length ≤ 3 := by
        by_cases h1 : c < 128
        · rw [encodeRuneZ_one (by omega) (by omega)]; simp
        · by_cases h3 : c < 2048
          · rw [encodeRuneZ_two (by omega) (by omega)]; simp
          · rw [encodeRuneZ_three (by omega)]; simp
      constructor
      · intro e; rw [e] at hlen; simp at hlen
      · intro e; rw [if_neg (by omega)]
  · have hv : Lib.validRune (c : Int) = false := by unfold Lib.validRune; simp; omega
    rw [hv, Bool.false_and]
    exact ⟨fun e => (Bool.noConfusion e), fun _ => by rw [if_neg (by omega)]⟩

/-- 'Next': the rune at a place, and how many bytes it has. -/
def nextF (l : List UInt8) (at_ : Int) : Int × Int :=
  if 0 ≤ at_ ∧ at_ < l.length then (((decodeL (l.drop at_.toNat)).1 : Int), ((decodeL (l.drop at_.toNat)).2 : Int)) else (0, 0)

end FoldP
end
