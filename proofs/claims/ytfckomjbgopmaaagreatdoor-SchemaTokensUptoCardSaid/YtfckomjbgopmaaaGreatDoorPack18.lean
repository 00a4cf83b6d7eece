/- How a number is written, as a plain Lean function; what is written is read again. Contracts: the document's answers of layer 7: a decimal read, digit by digit. What the two layers below say of a field; what 'value' answers and leaves. -/
import Derived.Test.YtfckomjbgopmaaaGreatDoorOrdP
import Derived.Test.YtfckomjbgopmaaaGreatDoorChecked
import Derived.Test.YtfckomjbgopmaaaGreatDoorPack2
import Derived.Test.YtfckomjbgopmaaaGreatDoorWords
import Derived.Test.YtfckomjbgopmaaaGreatDoorPack4
import Derived.WalkKit
import Derived.LoopTactic
import Derived.OwnWalk
import Derived.Deep.DeepCutAuto
import Derived.Test.YtfckomjbgopmaaaGreatDoorPack15
import Derived.Test.YtfckomjbgopmaaaGreatDoorPack16
import Derived.Test.YtfckomjbgopmaaaGreatDoorAnaRunP
section
namespace OrdP
open Go.Lib Go

/-- The k last digits of u. -/
def lowD : Nat → Nat → List UInt8
  | _, 0 => []
  | u, k + 1 => lowD (u / 10) k ++ [UInt8.ofNat (48 + u % 10)]
theorem lowD_length : ∀ (k u : Nat), (lowD u k).length = k
  | 0, _ => rfl
  | k + 1, u => by rw [lowD, List.length_append, lowD_length k]; rfl
theorem dig_nat (u : Nat) : (UInt8.ofNat (48 + u % 10)).toNat = 48 + u % 10 := by
  rw [UInt8.toNat_ofNat']; omega
theorem lowD_digits : ∀ (k u : Nat), (lowD u k).all digB = true
  | 0, _ => rfl
  | k + 1, u => by
    rw [lowD, List.all_append, lowD_digits k, Bool.true_and]
    simp only [List.all_cons, List.all_nil, Bool.and_true, digB]
    rw [dig_nat]; simp; omega
theorem lowD_add (u : Nat) : ∀ (k j : Nat), lowD u (j + k) = lowD (u / 10 ^ k) j ++ lowD u k
  | 0, j => by simp [lowD]
  | k + 1, j => by
    rw [← Nat.add_assoc, lowD, lowD, lowD_add (u / 10) k j, List.append_assoc, Nat.div_div_eq_div_mul, Nat.pow_succ, Nat.mul_comm]
theorem lowD_zero : ∀ k, lowD 0 k = zeros k
  | 0 => rfl
  | k + 1 => by
    rw [lowD, lowD_zero k]
    show List.replicate k 48 ++ [48] = List.replicate (k + 1) 48
    rw [List.replicate_succ']
theorem nd_one {u : Nat} (h : u < 10) : nDigits u = 1 := nDigits_small h
theorem decDigits_low : ∀ (n u : Nat), u < 10 ^ n → decDigits u = lowD u (nDigits u)
  | 0, u, h => by
    have : u = 0 := by simpa using h
    subst this
    rw [nd_one (by omega), decDigits, dif_pos (by omega)]; rfl
  | n + 1, u, h => by
    by_cases h1 : u < 10
    · rw [nd_one h1, decDigits, dif_pos h1, lowD, lowD, Nat.mod_eq_of_lt h1]; rfl
    · rw [decDigits, dif_neg h1, nDigits_big h1, lowD, decDigits_low n (u / 10) (by rw [Nat.pow_succ] at h; omega)]
theorem decDigits_eq_low (u : Nat) : decDigits u = lowD u (nDigits u) := decDigits_low (nDigits u) u (lt_pow_nDigits u)
/-- Digits with zeros in front. -/
theorem pad_low (u k : Nat) (h : nDigits u ≤ k) : lowD u k = zeros (k - nDigits u) ++ decDigits u := by
  obtain ⟨j, rfl⟩ := Nat.exists_eq_add_of_le h
  rw [Nat.add_comm, lowD_add, decDigits_eq_low, Nat.div_eq_of_lt (lt_pow_nDigits u), lowD_zero]
  congr 2; omega

/-- How many digits are written. -/
def wide (u scale : Nat) : Nat := max (scale + 1) (nDigits u)
def textU (u scale : Nat) : List UInt8 := lowD (u / 10 ^ scale) (wide u scale - scale) ++ (if scale = 0 then [] else 46 :: lowD u scale)
/-- How a number is written. -/
def textF (n : Int) (scale : Nat) : List UInt8 := (if n < 0 then [45] else []) ++ textU n.natAbs scale

theorem wide_le (u scale : Nat) : scale + 1 ≤ wide u scale ∧ nDigits u ≤ wide u scale := by unfold wide; omega
/-- The program's way: the digits, padded, cut where the point goes. -/
theorem text_pad (u scale : Nat) : zeros (wide u scale - nDigits u) ++ decDigits u = lowD (u / 10 ^ scale) (wide u scale - scale) ++ lowD u scale := by
  have h := wide_le u scale
  rw [← pad_low u _ h.2, ← lowD_add]
  congr 1; omega
theorem nd_pow (u : Nat) (h : 1 ≤ u) : 10 ^ (nDigits u - 1) ≤ u := by
  have key : ∀ n u, 1 ≤ u → u < 10 ^ n → 10 ^ (nDigits u - 1) ≤ u := by
    intro n
    induction n with
    | zero => intro u h1 h2; simp at h2; omega
    | succ n ih =>
      intro u h1 h2
      by_cases h3 : u < 10
      · rw [nd_one h3]; simpa using h1
      · rw [nDigits_big h3]
        have := ih (u / 10) (by omega) (by rw [Nat.pow_succ] at h2; omega)
        have hp := nDigits_pos (u / 10)
        obtain ⟨m, hm⟩ : ∃ m, nDigits (u / 10) = m + 1 := ⟨nDigits (u / 10) - 1, by omega⟩
        rw [hm] at this ⊢
        simp only [Nat.add_sub_cancel] at this ⊢
        rw [Nat.pow_succ]; omega
  exact key (nDigits u) u h (lt_pow_nDigits u)
theorem nd_le (u k : Nat) (h : u < 10 ^ k) (hk : 1 ≤ k) : nDigits u ≤ k := by
  rcases Nat.eq_zero_or_pos u with rfl | hu
  · rw [nd_one (by omega)]; exact hk
  · have := nd_pow u hu
    rcases Nat.lt_or_ge k (nDigits u) with h1 | h1
    · have := Nat.pow_le_pow_right (show 0 < 10 by omega) (show k ≤ nDigits u - 1 by omega)
      omega
    · exact h1
theorem head_low (u k : Nat) (hk : 1 ≤ k) (r : List UInt8) : ∃ c t, lowD u k ++ r = c :: t ∧ digB c = true := by
  have hd := lowD_digits k u
  have hl := lowD_length k u
  cases h : lowD u k with
  | nil => rw [h] at hl; simp at hl; omega
  | cons c t =>
    rw [h] at hd
    simp only [List.all_cons, Bool.and_eq_true] at hd
    exact ⟨c, t ++ r, rfl, hd.1⟩
end OrdP
end
section
set_option linter.unusedVariables false
namespace Go.Proofs.YtfckomjbgopmaaaGreatDoor.OrdRef
open Go.RowKit Go.Lib OrdP Kit Words Owned

def decN (l : List UInt8) (scale : Int) : Int := if scale < 0 ∨ 9 < scale then 0 else (decF l scale.toNat).getD 0
def decE (l : List UInt8) (scale : Int) : Int := if scale < 0 ∨ 9 < scale then 1 else if (decF l scale.toNat).isSome then 0 else 70
def DecRet (l : List UInt8) (scale : Int) (w : World) (e : Ending) (w' : World) : Prop := e = .returned (.tuple #[.int .i64 (decN l scale), .int .i64 (decE l scale)]) ∧ Below w.heap.size w w'
theorem dec_out {l : List UInt8} {scale : Int} {w w' : World} (h : scale < 0 ∨ 9 < scale) (hb : Below w.heap.size w w') : DecRet l scale w (.returned (.tuple #[.int .i64 0, .int .i64 1])) w' :=
  ⟨by unfold decN decE; rw [if_pos h, if_pos h], hb⟩
theorem dec_none {l : List UInt8} {sc : Nat} {w w' : World} (h : sc ≤ 9) (hd : decF l sc = none) (hb : Below w.heap.size w w') : DecRet l sc w (.returned (.tuple #[.int .i64 0, .int .i64 70])) w' :=
  ⟨by unfold decN decE; rw [if_neg (by omega), if_neg (by omega), Int.toNat_natCast, hd]; rfl, hb⟩
theorem dec_some {l : List UInt8} {sc : Nat} {n : Int} {w w' : World} (h : sc ≤ 9) (hd : decF l sc = some n) (hb : Below w.heap.size w w') : DecRet l sc w (.returned (.tuple #[.int .i64 n, .int .i64 0])) w' :=
  ⟨by unfold decN decE; rw [if_neg (by omega), if_neg (by omega), Int.toNat_natCast, hd]; rfl, hb⟩

theorem digit_any (c : UInt8) (w : World) : Calls Tryz.prog 74 #[.int .u8 c.toNat] w (fun e w' => e = .returned (.bool (digB c)) ∧ w = w') := by
  have hc := c.toNat_lt
  unfold digB
  by_cases h1 : 48 ≤ c.toNat
  · have b1 : decide ((48 : Int) ≤ (c.toNat : Int)) = true := by rw [decide_eq_true_eq]; omega
    by_cases h2 : c.toNat ≤ 57
    · have b2 : decide ((c.toNat : Int) ≤ 57) = true := by rw [decide_eq_true_eq]; omega
      go_enter Tryz.func74, Tryz.ntmps74
      go_wp2_with fail
      go_ret
      exact ⟨by simp [h1, h2], rfl⟩
    · have b2 : decide ((c.toNat : Int) ≤ 57) = false := by rw [decide_eq_false_iff_not]; omega
      go_enter Tryz.func74, Tryz.ntmps74
      go_wp2_with fail
      go_ret
      exact ⟨by simp [h1, h2], rfl⟩
  · have b1 : decide ((48 : Int) ≤ (c.toNat : Int)) = false := by rw [decide_eq_false_iff_not]; omega
    go_enter Tryz.func74, Tryz.ntmps74
    go_wp2_with fail
    go_ret
    exact ⟨by simp [h1], rfl⟩
end Go.Proofs.YtfckomjbgopmaaaGreatDoor.OrdRef
end
section
set_option linter.unusedVariables false
namespace Go.Proofs.YtfckomjbgopmaaaGreatDoor.Sch
open Go.RowKit Words Tree SchP Kit Owned AnaP

/-- The decimals and the tokens, as the two layers below say. -/
def runO (f : FT) (s : ByteArray) : Option Nat := if (runF f.chain s).2 = 0 then some (runF f.chain s).1.length else none
def decO (f : FT) (s : ByteArray) : Option Int := if f.scale < 0 ∨ 9 < f.scale then none else OrdP.decF s.data.toList f.scale.toNat
theorem decO_ways (f : FT) (s : ByteArray) : (∃ n, decO f s = some n ∧ OrdRef.decN s.data.toList f.scale = n ∧ OrdRef.decE s.data.toList f.scale = 0) ∨ (decO f s = none ∧ (OrdRef.decE s.data.toList f.scale == 0) = false) := by
  unfold decO OrdRef.decN OrdRef.decE
  by_cases h : f.scale < 0 ∨ 9 < f.scale
  · simp only [if_pos h]; exact .inr ⟨trivial, rfl⟩
  · simp only [if_neg h]
    cases hd : OrdP.decF s.data.toList f.scale.toNat with
    | none => exact .inr ⟨rfl, rfl⟩
    | some n => exact .inl ⟨n, rfl, rfl, rfl⟩

/-- What 'value' answers and leaves: the cell's block gc, the tokens' row gt with its place i. -/
structure ValRet (r : Option (CT × Nat)) (kd : Int) (t gc gt i : Nat) (cs : Array Value) (w : World) (e : Ending) (w' : World) (b : Bool) : Prop where
  ret : e = .returned (.bool b)
  but : But (fun g => g = gc ∨ g = gt) w w'
  yes : b = true → ∃ c n, r = some (c, n) ∧ (kd = 1 → t + n ≤ 4096) ∧ Blk w' gt 3 (cs.setIfInBounds i (.int .i64 ((t + n : Nat) : Int))) ∧
    ∃ v, Blk w' gc 57 #[.int .i64 c.field, .string c.text, v] ∧ T.At bare w' (fun g => w.heap.size ≤ g ∧ CellsAt w' g) (numsT .i64 c.nums) v
  no : b = false → ∀ c n, r = some (c, n) → kd = 1 ∧ 4096 < t + n
def ValPost (r : Option (CT × Nat)) (kd : Int) (t gc gt i : Nat) (cs : Array Value) (w : World) (e : Ending) (w' : World) : Prop := ∃ b, ValRet r kd t gc gt i cs w e w' b


theorem set_same {cs : Array Value} {i : Nat} {u : Value} (h : cs[i]? = some u) : cs.setIfInBounds i u = cs := by
  apply Array.ext_getElem?
  intro j
  rw [Array.getElem?_setIfInBounds]
  split
  · rename_i e; subst e
    obtain ⟨hi, _⟩ := Array.getElem?_eq_some_iff.1 h
    rw [if_pos hi, h]
  · rfl
theorem nums_none {sent : Nat → List (List Value)} {w : World} {S : Nat → Prop} (h : sent 1 = []) : T.At sent w S (numsT .i64 []) (.slice none 0 0) := by
  simp only [numsT, T.At]
  exact ⟨none, 0, [], rfl, by simp [h], by unfold maxLen; omega, rfl, fun hn => by simp [h] at hn, by simp [T.AtL]⟩
end Go.Proofs.YtfckomjbgopmaaaGreatDoor.Sch
end
