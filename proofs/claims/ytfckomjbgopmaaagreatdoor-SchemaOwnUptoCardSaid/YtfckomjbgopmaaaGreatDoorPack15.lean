/- How a number is written, as a plain Lean function; what is written is read again. Contracts: the document's answers of layer 7: a decimal read, digit by digit. What the two layers below say of a field; what 'value' answers and leaves. Contracts: what Cells asks of an entry: its first three questions. One entry more: the plain laws of a step, and what Cells answers. More on rows that a call gathers: two of them side by side. Over any program. -/
import Derived.Test.YtfckomjbgopmaaaGreatDoorPack14
import Derived.Test.YtfckomjbgopmaaaGreatDoorChecked
import Derived.Test.YtfckomjbgopmaaaGreatDoorPack2
import Derived.Test.YtfckomjbgopmaaaGreatDoorWords
import Derived.Test.YtfckomjbgopmaaaGreatDoorPack4
import Derived.WalkKit
import Derived.LoopTactic
import Derived.OwnWalk
import Derived.Deep.DeepCutAuto
import Derived.Test.YtfckomjbgopmaaaGreatDoorPack13
import Derived.Test.YtfckomjbgopmaaaGreatDoorPack6
section
namespace OrdP
open Go.Lib Go

/-- The k last digits of u. -/
def lowD : Nat → Nat → List UInt8
  | _, 0 => []
  | u, k + 1 => lowD (u / 10) k ++ [UInt8.ofNat (48 + u % 10)]
theorem lowD_length : ∀ (k u : Nat), (lowD u k).length = k
  | 0, _ => rfl
  | k + 1, u => by rw [lowD, List.length_append, lowD_length k]; rfl
theorem dig_nat (u : Nat) : (UInt8.ofNat (48 + u % 10)).toNat = 48 + u % 10 := by
  rw [UInt8.toNat_ofNat']; omega
theorem lowD_digits : ∀ (k u : Nat), (lowD u k).all digB = true
  | 0, _ => rfl
  | k + 1, u => by
    rw [lowD, List.all_append, lowD_digits k, Bool.true_and]
    simp only [List.all_cons, List.all_nil, Bool.and_true, digB]
    rw [dig_nat]; simp; omega
theorem lowD_add (u : Nat) : ∀ (k j : Nat), lowD u (j + k) = lowD (u / 10 ^ k) j ++ lowD u k
  | 0, j => by simp [lowD]
  | k + 1, j => by
    rw [← Nat.add_assoc, lowD, lowD, lowD_add (u / 10) k j, List.append_assoc, Nat.div_div_eq_div_mul, Nat.pow_succ, Nat.mul_comm]
theorem lowD_zero : ∀ k, lowD 0 k = zeros k
  | 0 => rfl
  | k + 1 => by
    rw [lowD, lowD_zero k]
    show List.replicate k 48 ++ [48] = List.replicate (k + 1) 48
    rw [List.replicate_succ']
theorem nd_one {u : Nat} (h : u < 10) : nDigits u = 1 := nDigits_small h
theorem decDigits_low : ∀ (n u : Nat), u < 10 ^ n → decDigits u = lowD u (nDigits u)
  | 0, u, h => by
    have : u = 0 := by simpa using h
    subst this
    rw [nd_one (by omega), decDigits, dif_pos (by omega)]; rfl
  | n + 1, u, h => by
    by_cases h1 : u < 10
    · rw [nd_one h1, decDigits, dif_pos h1, lowD, lowD, Nat.mod_eq_of_lt h1]; rfl
    · rw [decDigits, dif_neg h1, nDigits_big h1, lowD, decDigits_low n (u / 10) (by rw [Nat.pow_succ] at h; omega)]
theorem decDigits_eq_low (u : Nat) : decDigits u = lowD u (nDigits u) := decDigits_low (nDigits u) u (lt_pow_nDigits u)
/-- Digits with zeros in front. -/
theorem pad_low (u k : Nat) (h : nDigits u ≤ k) : lowD u k = zeros (k - nDigits u) ++ decDigits u := by
  obtain ⟨j, rfl⟩ := Nat.exists_eq_add_of_le h
  rw [Nat.add_comm, lowD_add, decDigits_eq_low, Nat.div_eq_of_lt (lt_pow_nDigits u), lowD_zero]
  congr 2; omega

/-- How many digits are written. -/
def wide (u scale : Nat) : Nat := max (scale + 1) (nDigits u)
def textU (u scale : Nat) : List UInt8 := lowD (u / 10 ^ scale) (wide u scale - scale) ++ (if scale = 0 then [] else 46 :: lowD u scale)
/-- How a number is written. -/
def textF (n : Int) (scale : Nat) : List UInt8 := (if n < 0 then [45] else []) ++ textU n.natAbs scale

theorem wide_le (u scale : Nat) : scale + 1 ≤ wide u scale ∧ nDigits u ≤ wide u scale := by unfold wide; omega
/-- The program's way: the digits, padded, cut where the point goes. -/
theorem text_pad (u scale : Nat) : zeros (wide u scale - nDigits u) ++ decDigits u = lowD (u / 10 ^ scale) (wide u scale - scale) ++ lowD u scale := by
  have h := wide_le u scale
  rw [← pad_low u _ h.2, ← lowD_add]
  congr 1; omega
theorem nd_pow (u : Nat) (h : 1 ≤ u) : 10 ^ (nDigits u - 1) ≤ u := by
  have key : ∀ n u, 1 ≤ u → u < 10 ^ n → 10 ^ (nDigits u - 1) ≤ u := by
    intro n
    induction n with
    | zero => intro u h1 h2; simp at h2; omega
    | succ n ih =>
      intro u h1 h2
      by_cases h3 : u < 10
      · rw [nd_one h3]; simpa using h1
      · rw [nDigits_big h3]
        have := ih (u / 10) (by omega) (by rw [Nat.pow_succ] at h2; omega)
        have hp := nDigits_pos (u / 10)
        obtain ⟨m, hm⟩ : ∃ m, nDigits (u / 10) = m + 1 := ⟨nDigits (u / 10) - 1, by omega⟩
        rw [hm] at this ⊢
        simp only [Nat.add_sub_cancel] at this ⊢
        rw [Nat.pow_succ]; omega
  exact key (nDigits u) u h (lt_pow_nDigits u)
theorem nd_le (u k : Nat) (h : u < 10 ^ k) (hk : 1 ≤ k) : nDigits u ≤ k := by
  rcases Nat.eq_zero_or_pos u with rfl | hu
  · rw [nd_one (by omega)]; exact hk
  · have := nd_pow u hu
    rcases Nat.lt_or_ge k (nDigits u) with h1 | h1
    · have := Nat.pow_le_pow_right (show 0 < 10 by omega) (show k ≤ nDigits u - 1 by omega)
      omega
    · exact h1
theorem head_low (u k : Nat) (hk : 1 ≤ k) (r : List UInt8) : ∃ c t, lowD u k ++ r = c :: t ∧ digB c = true := by
  have hd := lowD_digits k u
  have hl := lowD_length k u
  cases h : lowD u k with
  | nil => rw [h] at hl; simp at hl; omega
  | cons c t =>
    rw [h] at hd
    simp only [List.all_cons, Bool.and_eq_true] at hd
    exact ⟨c, t ++ r, rfl, hd.1⟩
end OrdP
end
section
set_option linter.unusedVariables false
namespace Go.Proofs.YtfckomjbgopmaaaGreatDoor.OrdRef
open Go.RowKit Go.Lib OrdP Kit Words Owned

def decN (l : List UInt8) (scale : Int) : Int := if scale < 0 ∨ 9 < scale then 0 else (decF l scale.toNat).getD 0
def decE (l : List UInt8) (scale : Int) : Int := if scale < 0 ∨ 9 < scale then 1 else if (decF l scale.toNat).isSome then 0 else 70
def DecRet (l : List UInt8) (scale : Int) (w : World) (e : Ending) (w' : World) : Prop := e = .returned (.tuple #[.int .i64 (decN l scale), .int .i64 (decE l scale)]) ∧ Below w.heap.size w w'
theorem dec_out {l : List UInt8} {scale : Int} {w w' : World} (h : scale < 0 ∨ 9 < scale) (hb : Below w.heap.size w w') : DecRet l scale w (.returned (.tuple #[.int .i64 0, .int .i64 1])) w' :=
  ⟨by unfold decN decE; rw [if_pos h, if_pos h], hb⟩
theorem dec_none {l : List UInt8} {sc : Nat} {w w' : World} (h : sc ≤ 9) (hd : decF l sc = none) (hb : Below w.heap.size w w') : DecRet l sc w (.returned (.tuple #[.int .i64 0, .int .i64 70])) w' :=
  ⟨by unfold decN decE; rw [if_neg (by omega), if_neg (by omega), Int.toNat_natCast, hd]; rfl, hb⟩
theorem dec_some {l : List UInt8} {sc : Nat} {n : Int} {w w' : World} (h : sc ≤ 9) (hd : decF l sc = some n) (hb : Below w.heap.size w w') : DecRet l sc w (.returned (.tuple #[.int .i64 n, .int .i64 0])) w' :=
  ⟨by unfold decN decE; rw [if_neg (by omega), if_neg (by omega), Int.toNat_natCast, hd]; rfl, hb⟩

theorem digit_any (c : UInt8) (w : World) : Calls Tryz.prog 74 #[.int .u8 c.toNat] w (fun e w' => e = .returned (.bool (digB c)) ∧ w = w') := by
  have hc := c.toNat_lt
  unfold digB
  by_cases h1 : 48 ≤ c.toNat
  · have b1 : decide ((48 : Int) ≤ (c.toNat : Int)) = true := by rw [decide_eq_true_eq]; omega
    by_cases h2 : c.toNat ≤ 57
    · have b2 : decide ((c.toNat : Int) ≤ 57) = true := by rw [decide_eq_true_eq]; omega
      go_enter Tryz.func74, Tryz.ntmps74
      go_wp2_with fail
      go_ret
      exact ⟨by simp [h1, h2], rfl⟩
    · have b2 : decide ((c.toNat : Int) ≤ 57) = false := by rw [decide_eq_false_iff_not]; omega
      go_enter Tryz.func74, Tryz.ntmps74
      go_wp2_with fail
      go_ret
      exact ⟨by simp [h1, h2], rfl⟩
  · have b1 : decide ((48 : Int) ≤ (c.toNat : Int)) = false := by rw [decide_eq_false_iff_not]; omega
    go_enter Tryz.func74, Tryz.ntmps74
    go_wp2_with fail
    go_ret
    exact ⟨by simp [h1], rfl⟩
end Go.Proofs.YtfckomjbgopmaaaGreatDoor.OrdRef
end
section
set_option linter.unusedVariables false
namespace Go.Proofs.YtfckomjbgopmaaaGreatDoor.Sch
open Go.RowKit Words Tree SchP Kit Owned AnaP

/-- The decimals and the tokens, as the two layers below say. -/
def runO (f : FT) (s : ByteArray) : Option Nat := if (runF f.chain s).2 = 0 then some (runF f.chain s).1.length else none
def decO (f : FT) (s : ByteArray) : Option Int := if f.scale < 0 ∨ 9 < f.scale then none else OrdP.decF s.data.toList f.scale.toNat
theorem decO_ways (f : FT) (s : ByteArray) : (∃ n, decO f s = some n ∧ OrdRef.decN s.data.toList f.scale = n ∧ OrdRef.decE s.data.toList f.scale = 0) ∨ (decO f s = none ∧ (OrdRef.decE s.data.toList f.scale == 0) = false) := by
  unfold decO OrdRef.decN OrdRef.decE
  by_cases h : f.scale < 0 ∨ 9 < f.scale
  · simp only [if_pos h]; exact .inr ⟨trivial, rfl⟩
  · simp only [if_neg h]
    cases hd : OrdP.decF s.data.toList f.scale.toNat with
    | none => exact .inr ⟨rfl, rfl⟩
    | some n => exact .inl ⟨n, rfl, rfl, rfl⟩

/-- What 'value' answers and leaves: the cell's block gc, the tokens' row gt with its place i. -/
structure ValRet (r : Option (CT × Nat)) (kd : Int) (t gc gt i : Nat) (cs : Array Value) (w : World) (e : Ending) (w' : World) (b : Bool) : Prop where
  ret : e = .returned (.bool b)
  but : But (fun g => g = gc ∨ g = gt) w w'
  yes : b = true → ∃ c n, r = some (c, n) ∧ (kd = 1 → t + n ≤ 4096) ∧ Blk w' gt 3 (cs.setIfInBounds i (.int .i64 ((t + n : Nat) : Int))) ∧
    ∃ v, Blk w' gc 57 #[.int .i64 c.field, .string c.text, v] ∧ NumsIn 2 .i64 w.heap.size w'.heap.size w' c.nums v
  no : b = false → ∀ c n, r = some (c, n) → kd = 1 ∧ 4096 < t + n
def ValPost (r : Option (CT × Nat)) (kd : Int) (t gc gt i : Nat) (cs : Array Value) (w : World) (e : Ending) (w' : World) : Prop := ∃ b, ValRet r kd t gc gt i cs w e w' b


theorem set_same {cs : Array Value} {i : Nat} {u : Value} (h : cs[i]? = some u) : cs.setIfInBounds i u = cs := by
  apply Array.ext_getElem?
  intro j
  rw [Array.getElem?_setIfInBounds]
  split
  · rename_i e; subst e
    obtain ⟨hi, _⟩ := Array.getElem?_eq_some_iff.1 h
    rw [if_pos hi, h]
  · rfl
theorem nums_none {sent : Nat → List (List Value)} {w : World} {S : Nat → Prop} (h : sent 1 = []) : T.At sent w S (numsT .i64 []) (.slice none 0 0) := by
  simp only [numsT, T.At]
  exact ⟨none, 0, [], rfl, by simp [h], by unfold maxLen; omega, rfl, fun hn => by simp [h] at hn, by simp [T.AtL]⟩
end Go.Proofs.YtfckomjbgopmaaaGreatDoor.Sch
end
section
set_option linter.unusedVariables false
namespace Go.Proofs.YtfckomjbgopmaaaGreatDoor.Sch
open Go.RowKit Words Tree SchP Kit Owned AnaP

set_option maxRecDepth 100000 in
theorem ask1_any (g : Nat) (b : Bool) (w : World) (hg : w.cell? ⟨g, 0, none⟩ = some (.bool b)) : Calls Tryz.prog 44 #[.pointer (some ⟨g, 0, none⟩)] w (IntB (if b then 0 else 81) w) := by
  have HC := Lib.hid (unless_any b 81 w)
  generalize (if b then (0 : Int) else 81) = n at *
  go_enter Tryz.func44, Tryz.ntmps44
  go_wp2_with fail
  refine HC.out.mono ?_
  rintro e w1 ⟨rfl, b1⟩
  have HB := Lib.hid b1
  clear b1
  go_wp2_with fail
  go_ret
  exact ⟨rfl, HB.out⟩

set_option maxRecDepth 100000 in
set_option maxHeartbeats 1000000 in
theorem ask2_any (gf ge : Nat) (f : FT) (e : ET) (X Y : Option Addr) (z1 z2 : Nat) (w : World) (hf : Blk w gf 54 #[.string f.name, .int .i64 f.kind, .slice X f.chain.length z1, .int .i64 f.scale, .int .i64 f.dims, .bool f.many, .bool f.stored])
    (he : Blk w ge 68 #[.string e.field, .string e.text, .slice Y e.nums.length z2]) :
    Calls Tryz.prog 46 #[.pointer (some ⟨gf, 0, none⟩), .pointer (some ⟨ge, 0, none⟩)] w (IntB (if kindP f e.text e.nums.length then 0 else 82) w) := by
  have HK := Lib.hid (fun V => kind_any f (.slice X f.chain.length z1) e.text Y e.nums.length z2 V)
  obtain ⟨b, hb⟩ : ∃ b, kindP f e.text e.nums.length = b := ⟨_, rfl⟩
  rw [hb] at HK ⊢
  have HC := Lib.hid (fun (V : World) => unless_any b 82 V)
  generalize (if b then (0 : Int) else 82) = n at *
  obtain ⟨p0, p1, p2, p3, p4, p5, p6⟩ := blk7 hf
  have q0 := he.cell 0
  have q1 : w.cell? ⟨ge, 1, none⟩ = some (.string e.text) := he.cell 1
  have q2 : w.cell? ⟨ge, 2, none⟩ = some (.slice Y e.nums.length z2) := he.cell 2
  clear hb hf he
  go_enter Tryz.func46, Tryz.ntmps46
  go_wp2_with fail
  refine (HK.out _).mono ?_
  rintro e' w1 ⟨rfl, b1⟩
  have HB := Lib.hid b1
  clear b1
  go_wp2_with fail
  refine (HC.out _).mono ?_
  rintro e' w2 ⟨rfl, b2⟩
  have HB2 := Lib.hid (HB.out.trans (b2.mono HB.out.size))
  clear b2
  go_wp2_with fail
  go_ret
  exact ⟨rfl, HB2.out⟩

set_option maxRecDepth 100000 in
set_option maxHeartbeats 1000000 in
theorem ask3_any (gf gs gi g1 c i s : Nat) (f : FT) (X : Value) (n : Nat) (w : World) (hf : Blk w gf 54 #[.string f.name, .int .i64 f.kind, X, .int .i64 f.scale, .int .i64 f.dims, .bool f.many, .bool f.stored])
    (hs : w.cell? ⟨gs, 0, none⟩ = some (.slice (some ⟨g1, 0, none⟩) n c)) (hi : w.cell? ⟨gi, 0, none⟩ = some (.int .i64 i)) (hin : i < n) (hn : n ≤ 1048576) (h1 : w.cell? ⟨g1, i, none⟩ = some (.int .i64 s)) :
    Calls Tryz.prog 47 #[.pointer (some ⟨gf, 0, none⟩), .pointer (some ⟨gs, 0, none⟩), .pointer (some ⟨gi, 0, none⟩)] w (IntB (if f.many || decide (s = 0) then 0 else 84) w) := by
  have HC := Lib.hid (fun (b : Bool) (V : World) => unless_any b 84 V)
  have p5 : w.cell? ⟨gf, 5, none⟩ = some (.bool f.many) := hf.cell 5
  clear hf
  obtain ⟨f0, fk, f2, f3, f4, mn, f6⟩ := f
  dsimp only at *
  cases mn with
  | true =>
    have hq : (if (true || decide (s = 0)) = true then (0 : Int) else 84) = 0 := rfl
    rw [hq]
    go_enter Tryz.func47, Tryz.ntmps47
    go_wp2_with fail
    refine (HC.out true _).mono ?_
    rintro e' w1 ⟨rfl, b1⟩
    have HB := Lib.hid b1
    clear b1
    go_wp2_with fail
    go_ret
    exact ⟨rfl, HB.out⟩
  | false =>
    by_cases hs0 : s = 0
    · have hq : (if (false || decide (s = 0)) = true then (0 : Int) else 84) = 0 := by rw [decide_eq_true hs0]; rfl
      rw [hq]
      subst hs0
      have hin2 : (i : Int) < (n : Int) := by omega
      go_enter Tryz.func47, Tryz.ntmps47
      go_wp2_with fail
      refine (HC.out true _).mono ?_
      rintro e' w1 ⟨rfl, b1⟩
      have HB := Lib.hid b1
      clear b1
      go_wp2_with fail
      go_ret
      exact ⟨rfl, HB.out⟩
    · have hq : (if (false || decide (s = 0)) = true then (0 : Int) else 84) = 84 := by rw [decide_eq_false hs0]; rfl
      rw [hq]
      have hin2 : (i : Int) < (n : Int) := by omega
      have hb : ((s : Int) == 0) = false := by rw [beq_eq_false_iff_ne]; omega
      go_enter Tryz.func47, Tryz.ntmps47
      go_wp2_with fail
      refine (HC.out false _).mono ?_
      rintro e' w1 ⟨rfl, b1⟩
      have HB := Lib.hid b1
      clear b1
      go_wp2_with fail
      go_ret
      exact ⟨rfl, HB.out⟩
end Go.Proofs.YtfckomjbgopmaaaGreatDoor.Sch
end
section
set_option linter.unusedVariables false
namespace Go.Proofs.YtfckomjbgopmaaaGreatDoor.Sch
open Go.RowKit Words Tree SchP Kit Owned AnaP

def seenA (n : Nat) (outs : List (CT × Nat)) : Array Value := ((List.range n).map fun i => Value.int .i64 ((ofK i outs).length : Int)).toArray
def tokA (n : Nat) (outs : List (CT × Nat)) : Array Value := ((List.range n).map fun i => Value.int .i64 ((sumK i outs : Nat) : Int)).toArray
theorem seenA_nil (n : Nat) : seenA n [] = madeCells #[Value.int .i64 0] n := by
  apply Array.toList_inj.1
  rw [toList_madeCells_one]
  simp [seenA, ofK, List.eq_replicate_iff]
theorem tokA_nil (n : Nat) : tokA n [] = madeCells #[Value.int .i64 0] n := by
  apply Array.toList_inj.1
  rw [toList_madeCells_one]
  simp [tokA, sumK, ofK, List.eq_replicate_iff]
theorem seenA_get {n i : Nat} (h : i < n) (outs : List (CT × Nat)) : (seenA n outs)[i]? = some (.int .i64 ((ofK i outs).length : Int)) := by simp [seenA, h]
theorem tokA_get {n i : Nat} (h : i < n) (outs : List (CT × Nat)) : (tokA n outs)[i]? = some (.int .i64 ((sumK i outs : Nat) : Int)) := by simp [tokA, h]
theorem ofK_snoc (j : Nat) (outs : List (CT × Nat)) (c : CT) (n : Nat) : ofK j (outs ++ [(c, n)]) = ofK j outs ++ (if c.field = j then [(c, n)] else []) := by
  rw [ofK_append]
  congr 1
  simp only [ofK, List.filter_cons, List.filter_nil]
  split <;> rename_i h
  · simp at h; rw [if_pos h]
  · simp at h; rw [if_neg h]
theorem sumK_snoc (j : Nat) (outs : List (CT × Nat)) (c : CT) (n : Nat) : sumK j (outs ++ [(c, n)]) = sumK j outs + (if c.field = j then n else 0) := by
  unfold sumK
  rw [ofK_snoc, List.map_append, List.sum_append]
  split <;> simp
theorem seenA_snoc {m i : Nat} (h : i < m) (outs : List (CT × Nat)) (c : CT) (n : Nat) (hc : c.field = i) : seenA m (outs ++ [(c, n)]) = (seenA m outs).setIfInBounds i (.int .i64 (((ofK i outs).length + 1 : Nat) : Int)) := by
  apply Array.ext_getElem?
  intro j
  rw [Array.getElem?_setIfInBounds]
  rcases Nat.lt_or_ge j m with hj | hj
  · rw [seenA_get hj, seenA_get hj, ofK_snoc, hc]
    by_cases e : i = j
    · subst e
      simp [seenA, h]
    · rw [if_neg e, if_neg (by omega)]; simp
  · rw [if_neg (by omega)]
    simp [seenA, Nat.not_lt.2 hj]
theorem tokA_snoc {m i : Nat} (h : i < m) (outs : List (CT × Nat)) (c : CT) (n : Nat) (hc : c.field = i) : tokA m (outs ++ [(c, n)]) = (tokA m outs).setIfInBounds i (.int .i64 ((sumK i outs + n : Nat) : Int)) := by
  apply Array.ext_getElem?
  intro j
  rw [Array.getElem?_setIfInBounds]
  rcases Nat.lt_or_ge j m with hj | hj
  · rw [tokA_get hj, tokA_get hj, sumK_snoc, hc]
    by_cases e : i = j
    · subst e
      simp [tokA, h]
    · rw [if_neg e, if_neg (by omega)]; simp
  · rw [if_neg (by omega)]
    simp [tokA, Nat.not_lt.2 hj]

theorem kindP_ok {f : FT} (h : mayB f = true) (text : ByteArray) (nums : List Int) : kindP f text nums.length = SchP.kindOk f text nums := by
  have hk := kind_of h
  rw [Bool.eq_iff_iff]
  unfold kindP SchP.kindOk wantN
  by_cases h3 : f.kind = 3
  · simp only [h3, if_true, Bool.and_eq_true, Bool.or_eq_true, decide_eq_true_eq]; omega
  · by_cases h5 : f.kind = 5
    · have : 1 ≤ f.dims := by omega
      simp only [if_neg h3, if_pos h5, Bool.and_eq_true, Bool.or_eq_true, decide_eq_true_eq]; omega
    · simp only [if_neg h3, if_neg h5, Bool.and_eq_true, Bool.or_eq_true, decide_eq_true_eq]; omega

section
variable {dec : FT → ByteArray → Option Int} {run : FT → ByteArray → Option Nat} {l : List FT} {outs : List (CT × Nat)} {e : ET} {i : Nat} {f : FT}
theorem stepF_none (h : findF l e.field = none) : stepF dec run l outs e = .error 81 := by unfold stepF; rw [h]
variable (hi : findF l e.field = some i) (hf : l[i]? = some f)
include hi hf
theorem stepF_82 (hk : SchP.kindOk f e.text e.nums = false) : stepF dec run l outs e = .error 82 := by
  unfold stepF; simp only [hi, hf]; rw [if_pos hk]
theorem stepF_84 (hk : SchP.kindOk f e.text e.nums = true) (hm : (f.many || decide ((ofK i outs).length = 0)) = false) : stepF dec run l outs e = .error 84 := by
  unfold stepF; simp only [hi, hf]
  rw [if_neg (by rw [hk]; decide), if_pos]
  simp at hm
  exact ⟨hm.1, List.length_pos_iff.2 hm.2⟩
theorem stepF_83 (hk : SchP.kindOk f e.text e.nums = true) (hm : (f.many || decide ((ofK i outs).length = 0)) = true) (hno : ∀ c n, valueF dec run f i e = some (c, n) → f.kind = 1 ∧ 4096 < sumK i outs + n) : stepF dec run l outs e = .error 83 := by
  unfold stepF; simp only [hi, hf]
  rw [if_neg (by rw [hk]; decide), if_neg (by
    simp at hm
    rintro ⟨h1, h2⟩
    rcases hm with h | h
    · rw [h] at h1; cases h1
    · rw [h] at h2; simp at h2)]
  cases hv : valueF dec run f i e with
  | none => rfl
  | some c => exact if_pos (hno c.1 c.2 hv)
theorem stepF_ok {c : CT} {n : Nat} (hk : SchP.kindOk f e.text e.nums = true) (hm : (f.many || decide ((ofK i outs).length = 0)) = true) (hv : valueF dec run f i e = some (c, n)) (hle : f.kind = 1 → sumK i outs + n ≤ 4096) : stepF dec run l outs e = .ok (c, n) := by
  unfold stepF; simp only [hi, hf]
  rw [if_neg (by rw [hk]; decide), if_neg (by
    simp at hm
    rintro ⟨h1, h2⟩
    rcases hm with h | h
    · rw [h] at h1; cases h1
    · rw [h] at h2; simp at h2)]
  rw [hv]
  exact if_neg (by rintro ⟨h1, h2⟩; have := hle h1; simp at h2; omega)
end
theorem valueF_field {dec : FT → ByteArray → Option Int} {run : FT → ByteArray → Option Nat} {f : FT} {i : Nat} {e : ET} {c : CT} {n : Nat} (h : valueF dec run f i e = some (c, n)) : c.field = i ∧ (f.kind ≠ 1 → n = 0) := by
  refine ⟨?_, fun hf => valueF_zero h hf⟩
  unfold valueF at h
  split at h
  · cases hr : run f e.text with
    | none => rw [hr] at h; cases h
    | some n => rw [hr] at h; cases h; rfl
  · split at h
    · split at h
      · cases h; rfl
      · cases h
    · split at h
      · cases hr : dec f e.text with
        | none => rw [hr] at h; cases h
        | some n => rw [hr] at h; cases h; rfl
      · cases h; rfl

/-- What Cells answers. -/
def CellsRet (r : Except Int (List CT)) (w : World) (e : Ending) (w' : World) : Prop :=
  Below w.heap.size w w' ∧ match r with
  | .error n => e = .returned (.tuple #[.slice none 0 0, .int .i64 n])
  | .ok cs => ∃ v, e = .returned (.tuple #[v, .int .i64 0]) ∧ T.At bare w' (fun g => w.heap.size ≤ g ∧ CellsAt w' g) (cellsT cs) v
end Go.Proofs.YtfckomjbgopmaaaGreatDoor.Sch
end
section
set_option linter.unusedVariables false
namespace Go.Proofs.YtfckomjbgopmaaaGreatDoor.Tree
open Go.RowKit Go.WideShapes Go.ChangeShapes Words Owned

section
variable {sent : Nat → List (List Value)} {X : Type} {f : X → List T} {s : Nat} {et : TypeId} {box : Option Nat} {N : Nat}
/-- A row of the call's own that is kept where blocks beside it are written. -/
theorem own_but {M : Nat → Prop} {w w' : World} {B n m : Nat} {e : TypeId} {v : Value} {xs : List Value} (h : w.ownsRow B e m v n xs) (hb : But M w w') (hM : ∀ g, v.ownBlock = some g → ¬ M g) : w'.ownsRow B e m v n xs :=
  ⟨h.1, h.2.elim .inl fun ⟨g, cap, cur, hv, h1, h2, h3⟩ => .inr ⟨g, cap, cur, hv, h1, (hb.block g (Array.getElem?_eq_some_iff.1 h2).1 (hM g (by rw [hv]; rfl))).trans h2, h3⟩⟩
end
end Go.Proofs.YtfckomjbgopmaaaGreatDoor.Tree
end
