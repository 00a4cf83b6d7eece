/- Contract: slices.Clone over numbers. A document's cells, in plain Lean: which documents are taken, entry by entry and all together; their order makes no difference, nor does one that is left away; cells are told as entries again. The decimals and the tokens of a text come as functions. What a call keeps: all that lay there but some blocks. Over any program. Decimals as plain Lean functions: what a text says, how a number is written, and that what is written is read again. How a number is written, as a plain Lean function; what is written is read again. Contracts: the document's answers of layer 7: a decimal read, digit by digit. What the two layers below say of a field; what 'value' answers and leaves. Contracts: what Cells asks of an entry: its first three questions. One entry more: the plain laws of a step, and what Cells answers. -/
import Derived.Test.YtfckomjbgopmaaaGreatDoorPack11
import Derived.Test.YtfckomjbgopmaaaGreatDoorPack15
import Derived.Test.YtfckomjbgopmaaaGreatDoorPack8
import Derived.Lib.ParseIntBCases
import Derived.Lib.IndexMore
import Derived.Lib.Repeat
import Derived.Lib.ItoaNum
import Derived.Test.YtfckomjbgopmaaaGreatDoorChecked
import Derived.Test.YtfckomjbgopmaaaGreatDoorPack2
import Derived.Test.YtfckomjbgopmaaaGreatDoorWords
import Derived.Test.YtfckomjbgopmaaaGreatDoorPack4
import Derived.WalkKit
import Derived.LoopTactic
import Derived.OwnWalk
import Derived.Deep.DeepCutAuto
import Derived.Test.YtfckomjbgopmaaaGreatDoorPack12
import Derived.Test.YtfckomjbgopmaaaGreatDoorAnaRunP
section
set_option linter.unusedVariables false
namespace Go.Proofs.YtfckomjbgopmaaaGreatDoor.Sch
open Go.RowKit Words Tree SchP Kit Owned

set_option maxRecDepth 100000 in
theorem eql_nilS (n c : Nat) (w : World) : (binOp .eql 55 (.slice none n c) (.slice none 0 0)).run Tryz.prog w = .ok (.bool true) w := by rfl
set_option maxRecDepth 100000 in
theorem eql_someS (ad : Addr) (n c : Nat) (w : World) : (binOp .eql 55 (.slice (some ad) n c) (.slice none 0 0)).run Tryz.prog w = .ok (.bool false) w := by rfl
set_option maxRecDepth 100000 in
theorem clone_any (v : Value) (l : List Int) (w : World) (hv : T.At bare w (fun g => g < w.heap.size) (numsT .i64 l) v) (hl : l.length * 8 ≤ 140737488351232) :
    Calls Tryz.prog 31 #[v] w (FreshT (numsT .i64 l) w) := by
  obtain ⟨A, cap, rfl, hc, hm, hr⟩ := at_nums hv
  clear hv
  obtain ⟨i0, hi, hz0, hz1, hz2⟩ := info_parts infoI64
  cases A with
  | none =>
    have h0 : l = [] := by
      rcases Nat.eq_zero_or_pos l.length with h | h
      · exact List.eq_nil_of_length_eq_zero h
      · obtain ⟨ad, e, _⟩ := hr.2 h; cases e
    subst h0
    clear hr
    have hq := eql_nilS
    go_enter Tryz.func31, Tryz.ntmps31
    go_wp2_with fail
    go_ret
    exact ⟨_, rfl, nums_cells (B := w.heap.size) (e := 2) (World.ownsRow_nil _ _ _ _), Below.refl _ _⟩
  | some ad =>
    have hq := eql_someS
    go_enter Tryz.func31, Tryz.ntmps31
    go_wp2_with (at_builtin; refine wpList_append_any _ rfl (.tmp 5) (.tmp 6) 55 rfl w.heap.size 2 i0 (.int .i64 0) 1 8 Tryz.underlying55 hi hz0 hz1 hz2 rfl (by decide) _ 0 [] rfl (own_empty w _ _ _ (Nat.le_refl _)) w.heap.size (some ad) l.length cap (l.map (Value.int .i64)) rfl (hr.alloc (Nat.le_refl _) _) ?c2 ?c3 ?c4 ?c5 ?_)
    case c2 => intro u hu; obtain ⟨z, _, rfl⟩ := List.mem_map.1 hu; rfl
    case c3 => unfold maxLen; omega
    case c4 => omega
    case c5 => simp
    intro v1 w1 ho1 hg1 _
    have hb1 : Below w.heap.size w w1 := ((Below.refl _ w).alloc (Nat.le_refl _) _).grown hg1 (by simp) (fun r e => by simp [Value.ownBlock] at e; omega)
    replace ho1 : w1.ownsRow w.heap.size 2 1 v1 l.length (l.map (Value.int .i64)) := by simpa using ho1
    have HB1 := Lib.hid hb1
    have HO1 := Lib.hid ho1
    clear hg1 hb1 ho1
    go_wp2_with fail
    go_ret
    exact ⟨_, rfl, nums_cells HO1.out, HB1.out⟩
end Go.Proofs.YtfckomjbgopmaaaGreatDoor.Sch
end
section
namespace SchP
open AnaP

section
variable (dec : FT → ByteArray → Option Int) (run : FT → ByteArray → Option Nat)

/-- How many numbers an entry of a field has. -/
def wantN (f : FT) : Int := if f.kind = 3 then 1 else if f.kind = 5 then f.dims else 0
def kindOk (f : FT) (text : ByteArray) (nums : List Int) : Bool := decide ((nums.length : Int) = wantN f) && (decide (wantN f ≤ 0) || decide (text.size = 0))
/-- An entry's value in a cell, and its tokens. -/
def valueF (f : FT) (k : Nat) (e : ET) : Option (CT × Nat) :=
  if f.kind = 1 then (run f e.text).map fun n => (⟨k, e.text, []⟩, n)
  else if f.kind = 2 then (if e.text.size ≤ 256 then some (⟨k, e.text, []⟩, 0) else none)
  else if f.kind = 4 then (dec f e.text).map fun n => (⟨k, ⟨#[]⟩, [n]⟩, 0)
  else some (⟨k, ⟨#[]⟩, e.nums⟩, 0)
def ofK (k : Nat) (out : List (CT × Nat)) : List (CT × Nat) := out.filter fun c => decide (c.1.field = k)
def sumK (k : Nat) (out : List (CT × Nat)) : Nat := ((ofK k out).map (·.2)).sum
/-- The next cell, or why there is none. -/
def stepF (l : List FT) (out : List (CT × Nat)) (e : ET) : Except Int (CT × Nat) := match findF l e.field with
  | none => .error 81
  | some k => match l[k]? with
    | none => .error 81
    | some f =>
      if kindOk f e.text e.nums = false then .error 82
      else if f.many = false ∧ 0 < (ofK k out).length then .error 84
      else match valueF dec run f k e with
        | none => .error 83
        | some c => if f.kind = 1 ∧ 4096 < sumK k out + c.2 then .error 83 else .ok c
/-- An entry by itself. -/
def oneF (l : List FT) (e : ET) : Option (CT × Nat) := match findF l e.field with
  | none => none
  | some k => match l[k]? with
    | none => none
    | some f => if kindOk f e.text e.nums = false then none else valueF dec run f k e
/-- Cells that may be together. -/
def Fits (l : List FT) (out : List (CT × Nat)) : Prop := ∀ (k : Nat) (f : FT), l[k]? = some f → (f.many = false → (ofK k out).length ≤ 1) ∧ (f.kind = 1 → sumK k out ≤ 4096)

theorem Fits.nil (l : List FT) : Fits l [] := fun k f hk => by simp [ofK, sumK]

variable {dec run}
/-! ### Cells told as entries again -/
variable (txt : FT → Int → ByteArray)
def wantC (f : FT) : Int := if f.kind = 3 ∨ f.kind = 4 then 1 else if f.kind = 5 then f.dims else 0
def backE (l : List FT) (c : CT) : Except Int ET := if c.field < 0 ∨ (l.length : Int) ≤ c.field then .error 81 else match l[c.field.toNat]? with
  | none => .error 81
  | some f =>
    if ¬ ((c.nums.length : Int) = wantC f) ∨ (0 < wantC f ∧ 0 < c.text.size) then .error 82
    else if f.kind = 4 then .ok ⟨f.name, txt f (c.nums.getD 0 0), []⟩ else .ok ⟨f.name, c.text, c.nums⟩
def backGo (l : List FT) : List CT → Except Int (List ET)
  | [] => .ok []
  | c :: cs => match backE txt l c with
    | .error n => .error n
    | .ok e => match backGo l cs with
      | .error n => .error n
      | .ok d => .ok (e :: d)
def backF (l : List FT) (cs : List CT) : Except Int (List ET) := if checkS l = false then .error 80 else backGo txt l cs

theorem may_of {l : List FT} (h : checkS l = true) {k : Nat} {f : FT} (hk : l[k]? = some f) : mayB f = true := by
  obtain ⟨hk1, rfl⟩ := List.getElem?_eq_some_iff.1 hk
  unfold checkS at h
  simp only [Bool.and_eq_true] at h
  have h2 := h.2
  unfold okTo at h2
  rw [List.all_eq_true] at h2
  have h3 := h2 k (List.mem_range.2 hk1)
  rw [okAt_eq hk1, Bool.and_eq_true] at h3
  exact h3.2
theorem kind_of {f : FT} (h : mayB f = true) : f.kind = 1 ∨ f.kind = 2 ∨ f.kind = 3 ∨ f.kind = 4 ∨ (f.kind = 5 ∧ 1 ≤ f.dims ∧ f.dims ≤ 4) := by
  unfold mayB at h
  simp only [Bool.and_eq_true] at h
  have h2 := h.2
  unfold kindB at h2
  split at h2
  · exact .inl ‹_›
  · split at h2
    · omega
    · split at h2
      · omega
      · split at h2
        · rename_i h5
          have := of_decide_eq_true h2
          exact .inr (.inr (.inr (.inr ⟨h5, this⟩)))
        · cases h2
end
end SchP
end
section
set_option linter.unusedVariables false
namespace Go.Proofs.YtfckomjbgopmaaaGreatDoor.Tree
open Go.RowKit Go.WideShapes Go.ChangeShapes Words Owned

/-- All is kept but the blocks of N; memory may have grown. -/
structure But (N : Nat → Prop) (w w' : World) : Prop where
  os : w'.os = w.os
  tape : w'.tape = w.tape
  output : w'.output = w.output
  size : w.heap.size ≤ w'.heap.size
  block : ∀ g, g < w.heap.size → ¬ N g → w'.heap[g]? = w.heap[g]?
section
variable {N N' : Nat → Prop} {w w' w'' : World}
theorem But.of_below (h : Below w.heap.size w w') : But N w w' := ⟨h.os, h.tape, h.output, h.size, fun g hg _ => h.block g hg⟩
theorem But.refl (N : Nat → Prop) (w : World) : But N w w := But.of_below (Below.refl _ _)
theorem But.trans (h : But N w w') (k : But N w' w'') : But N w w'' := ⟨k.os.trans h.os, k.tape.trans h.tape, k.output.trans h.output, Nat.le_trans h.size k.size, fun g hg hn => (k.block g (Nat.lt_of_lt_of_le hg h.size) hn).trans (h.block g hg hn)⟩
theorem But.mono (h : But N w w') (hN : ∀ g, N g → N' g) : But N' w w' := ⟨h.os, h.tape, h.output, h.size, fun g hg hn => h.block g hg fun hg' => hn (hN g hg')⟩
theorem But.below {B : Nat} (h : But N w w') (hB : B ≤ w.heap.size) (hN : ∀ g, g < B → ¬ N g) : Below B w w' := ⟨h.os, h.tape, h.output, h.size, fun g hg => h.block g (by omega) (hN g hg)⟩
theorem But.grown {row : Option Nat} (h : w.grownBy w' row) (hr : ∀ r, row = some r → N r) : But N w w' := ⟨h.os, h.tape, h.output, h.size, fun g hg hn => h.block g hg (fun e => hn (hr g e.symm))⟩
theorem But.alloc (h : But N w w') (o : Obj) : But N w (w'.alloc o) := h.trans (But.of_below ((Below.refl _ _).alloc (Nat.le_refl _) _))
theorem But.set (h : But N w w') {p : Addr} (hp : N p.block ∨ w.heap.size ≤ p.block) (u : Value) : But N w (w'.setCell p u) :=
  ⟨h.os, h.tape, h.output, by simpa [World.setCell] using h.size, fun g hg hn => (Below.heap_setCell w' p u g (by rintro rfl; rcases hp with hp | hp; exact hn hp; omega)).trans (h.block g hg hn)⟩
/-- Blocks made meanwhile may be written. -/
theorem But.more (h : But N w w') (k : But N' w' w'') (hN : ∀ g, N' g → N g ∨ w.heap.size ≤ g) : But N w w'' :=
  ⟨k.os.trans h.os, k.tape.trans h.tape, k.output.trans h.output, Nat.le_trans h.size k.size, fun g hg hn => (k.block g (Nat.lt_of_lt_of_le hg h.size) (fun h' => (hN g h').elim hn (fun h'' => by omega))).trans (h.block g hg hn)⟩
theorem But.blk {g : Nat} {t : TypeId} {cs : Array Value} (h : But N w w') (hb : Blk w g t cs) (hn : ¬ N g) : Blk w' g t cs := (h.block g hb.lt hn).trans hb
theorem But.cell (h : But N w w') {p : Addr} (hp : p.block < w.heap.size) (hn : ¬ N p.block) : w'.cell? p = w.cell? p := World.cell?_of_block (h.block p.block hp hn)
end
end Go.Proofs.YtfckomjbgopmaaaGreatDoor.Tree
end
section
namespace OrdP
open Go.Lib Go

def digB (b : UInt8) : Bool := decide (48 ≤ b.toNat ∧ b.toNat ≤ 57)
def zeros (n : Nat) : List UInt8 := List.replicate n 48
def below (l : List UInt8) : Bool := decide (l.head? = some 45)
def size (l : List UInt8) : List UInt8 := if below l then l.drop 1 else l
/-! ### The library's parser at digits -/
/-! ### The document's sum, below 0 -/
/-! ### The program's way: cut at the first point -/
theorem take_all (p : UInt8 → Bool) : ∀ l : List UInt8, l.all p = true → l.takeWhile p = l ∧ l.dropWhile p = []
  | [], _ => ⟨rfl, rfl⟩
  | c :: l, h => by
    simp only [List.all_cons, Bool.and_eq_true] at h
    obtain ⟨h1, h2⟩ := take_all p l h.2
    simp [h.1, h1, h2]
end OrdP
end
section
namespace OrdP
open Go.Lib Go

/-- The k last digits of u. -/
def lowD : Nat → Nat → List UInt8
  | _, 0 => []
  | u, k + 1 => lowD (u / 10) k ++ [UInt8.ofNat (48 + u % 10)]
theorem lowD_length : ∀ (k u : Nat), (lowD u k).length = k
  | 0, _ => rfl
  | k + 1, u => by rw [lowD, List.length_append, lowD_length k]; rfl
theorem dig_nat (u : Nat) : (UInt8.ofNat (48 + u % 10)).toNat = 48 + u % 10 := by
  rw [UInt8.toNat_ofNat']; omega
theorem lowD_digits : ∀ (k u : Nat), (lowD u k).all digB = true
  | 0, _ => rfl
  | k + 1, u => by
    rw [lowD, List.all_append, lowD_digits k, Bool.true_and]
    simp only [List.all_cons, List.all_nil, Bool.and_true, digB]
    rw [dig_nat]; simp; omega
theorem lowD_add (u : Nat) : ∀ (k j : Nat), lowD u (j + k) = lowD (u / 10 ^ k) j ++ lowD u k
  | 0, j => by simp [lowD]
  | k + 1, j => by
    rw [← Nat.add_assoc, lowD, lowD, lowD_add (u / 10) k j, List.append_assoc, Nat.div_div_eq_div_mul, Nat.pow_succ, Nat.mul_comm]
theorem lowD_zero : ∀ k, lowD 0 k = zeros k
  | 0 => rfl
  | k + 1 => by
    rw [lowD, lowD_zero k]
    show List.replicate k 48 ++ [48] = List.replicate (k + 1) 48
    rw [List.replicate_succ']
theorem nd_one {u : Nat} (h : u < 10) : nDigits u = 1 := nDigits_small h
theorem decDigits_low : ∀ (n u : Nat), u < 10 ^ n → decDigits u = lowD u (nDigits u)
  | 0, u, h => by
    have : u = 0 := by simpa using h
    subst this
    rw [nd_one (by omega), decDigits, dif_pos (by omega)]; rfl
  | n + 1, u, h => by
    by_cases h1 : u < 10
    · rw [nd_one h1, decDigits, dif_pos h1, lowD, lowD, Nat.mod_eq_of_lt h1]; rfl
    · rw [decDigits, dif_neg h1, nDigits_big h1, lowD, decDigits_low n (u / 10) (by rw [Nat.pow_succ] at h; omega)]
theorem decDigits_eq_low (u : Nat) : decDigits u = lowD u (nDigits u) := decDigits_low (nDigits u) u (lt_pow_nDigits u)
/-- Digits with zeros in front. -/
theorem pad_low (u k : Nat) (h : nDigits u ≤ k) : lowD u k = zeros (k - nDigits u) ++ decDigits u := by
  obtain ⟨j, rfl⟩ := Nat.exists_eq_add_of_le h
  rw [Nat.add_comm, lowD_add, decDigits_eq_low, Nat.div_eq_of_lt (lt_pow_nDigits u), lowD_zero]
  congr 2; omega

/-- How many digits are written. -/
def wide (u scale : Nat) : Nat := max (scale + 1) (nDigits u)
def textU (u scale : Nat) : List UInt8 := lowD (u / 10 ^ scale) (wide u scale - scale) ++ (if scale = 0 then [] else 46 :: lowD u scale)
/-- How a number is written. -/
def textF (n : Int) (scale : Nat) : List UInt8 := (if n < 0 then [45] else []) ++ textU n.natAbs scale

theorem wide_le (u scale : Nat) : scale + 1 ≤ wide u scale ∧ nDigits u ≤ wide u scale := by unfold wide; omega
/-- The program's way: the digits, padded, cut where the point goes. -/
theorem text_pad (u scale : Nat) : zeros (wide u scale - nDigits u) ++ decDigits u = lowD (u / 10 ^ scale) (wide u scale - scale) ++ lowD u scale := by
  have h := wide_le u scale
  rw [← pad_low u _ h.2, ← lowD_add]
  congr 1; omega
theorem nd_pow (u : Nat) (h : 1 ≤ u) : 10 ^ (nDigits u - 1) ≤ u := by
  have key : ∀ n u, 1 ≤ u → u < 10 ^ n → 10 ^ (nDigits u - 1) ≤ u := by
    intro n
    induction n with
    | zero => intro u h1 h2; simp at h2; omega
    | succ n ih =>
      intro u h1 h2
      by_cases h3 : u < 10
      · rw [nd_one h3]; simpa using h1
      · rw [nDigits_big h3]
        have := ih (u / 10) (by omega) (by rw [Nat.pow_succ] at h2; omega)
        have hp := nDigits_pos (u / 10)
        obtain ⟨m, hm⟩ : ∃ m, nDigits (u / 10) = m + 1 := ⟨nDigits (u / 10) - 1, by omega⟩
        rw [hm] at this ⊢
        simp only [Nat.add_sub_cancel] at this ⊢
        rw [Nat.pow_succ]; omega
  exact key (nDigits u) u h (lt_pow_nDigits u)
theorem nd_le (u k : Nat) (h : u < 10 ^ k) (hk : 1 ≤ k) : nDigits u ≤ k := by
  rcases Nat.eq_zero_or_pos u with rfl | hu
  · rw [nd_one (by omega)]; exact hk
  · have := nd_pow u hu
    rcases Nat.lt_or_ge k (nDigits u) with h1 | h1
    · have := Nat.pow_le_pow_right (show 0 < 10 by omega) (show k ≤ nDigits u - 1 by omega)
      omega
    · exact h1
theorem head_low (u k : Nat) (hk : 1 ≤ k) (r : List UInt8) : ∃ c t, lowD u k ++ r = c :: t ∧ digB c = true := by
  have hd := lowD_digits k u
  have hl := lowD_length k u
  cases h : lowD u k with
  | nil => rw [h] at hl; simp at hl; omega
  | cons c t =>
    rw [h] at hd
    simp only [List.all_cons, Bool.and_eq_true] at hd
    exact ⟨c, t ++ r, rfl, hd.1⟩
/-- The point stands where the scale says, and nowhere else. -/
theorem text_length (n : Int) (scale : Nat) : (textF n scale).length = (if n < 0 then 1 else 0) + (wide n.natAbs scale - scale) + (if scale = 0 then 0 else scale + 1) := by
  unfold textF textU
  rw [List.length_append, List.length_append, lowD_length]
  by_cases h : n < 0 <;> by_cases hz : scale = 0 <;> simp [h, hz, lowD_length] <;> omega
end OrdP
end
section
set_option linter.unusedVariables false
namespace Go.Proofs.YtfckomjbgopmaaaGreatDoor.OrdRef
open Go.RowKit Go.Lib OrdP Kit Words Owned

theorem digit_any (c : UInt8) (w : World) : Calls Tryz.prog 74 #[.int .u8 c.toNat] w (fun e w' => e = .returned (.bool (digB c)) ∧ w = w') := by
  have hc := c.toNat_lt
  unfold digB
  by_cases h1 : 48 ≤ c.toNat
  · have b1 : decide ((48 : Int) ≤ (c.toNat : Int)) = true := by rw [decide_eq_true_eq]; omega
    by_cases h2 : c.toNat ≤ 57
    · have b2 : decide ((c.toNat : Int) ≤ 57) = true := by rw [decide_eq_true_eq]; omega
      go_enter Tryz.func74, Tryz.ntmps74
      go_wp2_with fail
      go_ret
      exact ⟨by simp [h1, h2], rfl⟩
    · have b2 : decide ((c.toNat : Int) ≤ 57) = false := by rw [decide_eq_false_iff_not]; omega
      go_enter Tryz.func74, Tryz.ntmps74
      go_wp2_with fail
      go_ret
      exact ⟨by simp [h1, h2], rfl⟩
  · have b1 : decide ((48 : Int) ≤ (c.toNat : Int)) = false := by rw [decide_eq_false_iff_not]; omega
    go_enter Tryz.func74, Tryz.ntmps74
    go_wp2_with fail
    go_ret
    exact ⟨by simp [h1], rfl⟩
end Go.Proofs.YtfckomjbgopmaaaGreatDoor.OrdRef
end
section
set_option linter.unusedVariables false
namespace Go.Proofs.YtfckomjbgopmaaaGreatDoor.Sch
open Go.RowKit Words Tree SchP Kit Owned AnaP

/-- What 'value' answers and leaves: the cell's block gc, the tokens' row gt with its place i. -/
structure ValRet (r : Option (CT × Nat)) (kd : Int) (t gc gt i : Nat) (cs : Array Value) (w : World) (e : Ending) (w' : World) (b : Bool) : Prop where
  ret : e = .returned (.bool b)
  but : But (fun g => g = gc ∨ g = gt) w w'
  yes : b = true → ∃ c n, r = some (c, n) ∧ (kd = 1 → t + n ≤ 4096) ∧ Blk w' gt 3 (cs.setIfInBounds i (.int .i64 ((t + n : Nat) : Int))) ∧
    ∃ v, Blk w' gc 57 #[.int .i64 c.field, .string c.text, v] ∧ T.At bare w' (fun g => w.heap.size ≤ g ∧ CellsAt w' g) (numsT .i64 c.nums) v
  no : b = false → ∀ c n, r = some (c, n) → kd = 1 ∧ 4096 < t + n
theorem nums_none {sent : Nat → List (List Value)} {w : World} {S : Nat → Prop} (h : sent 1 = []) : T.At sent w S (numsT .i64 []) (.slice none 0 0) := by
  simp only [numsT, T.At]
  exact ⟨none, 0, [], rfl, by simp [h], by unfold maxLen; omega, rfl, fun hn => by simp [h] at hn, by simp [T.AtL]⟩
end Go.Proofs.YtfckomjbgopmaaaGreatDoor.Sch
end
section
set_option linter.unusedVariables false
namespace Go.Proofs.YtfckomjbgopmaaaGreatDoor.Sch
open Go.RowKit Words Tree SchP Kit Owned AnaP

end Go.Proofs.YtfckomjbgopmaaaGreatDoor.Sch
end
section
set_option linter.unusedVariables false
namespace Go.Proofs.YtfckomjbgopmaaaGreatDoor.Sch
open Go.RowKit Words Tree SchP Kit Owned AnaP

section
variable {dec : FT → ByteArray → Option Int} {run : FT → ByteArray → Option Nat} {l : List FT} {outs : List (CT × Nat)} {e : ET} {i : Nat} {f : FT}
variable (hi : findF l e.field = some i) (hf : l[i]? = some f)
include hi hf
end
end Go.Proofs.YtfckomjbgopmaaaGreatDoor.Sch
end
