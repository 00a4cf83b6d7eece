/- What a call keeps: all that lay there but some blocks. Over any program. Decimals as plain Lean functions: what a text says, how a number is written, and that what is written is read again. -/
import Derived.Test.YtfckomjbgopmaaaGreatDoorPack15
import Derived.Lib.ParseIntBCases
import Derived.Lib.IndexMore
import Derived.Lib.Repeat
import Derived.Lib.ItoaNum
section
set_option linter.unusedVariables false
namespace Go.Proofs.YtfckomjbgopmaaaGreatDoor.Tree
open Go.RowKit Go.WideShapes Go.ChangeShapes Words Owned

/-- All is kept but the blocks of N; memory may have grown. -/
structure But (N : Nat → Prop) (w w' : World) : Prop where
  os : w'.os = w.os
  tape : w'.tape = w.tape
  output : w'.output = w.output
  size : w.heap.size ≤ w'.heap.size
  block : ∀ g, g < w.heap.size → ¬ N g → w'.heap[g]? = w.heap[g]?
section
variable {N N' : Nat → Prop} {w w' w'' : World}
theorem But.of_below (h : Below w.heap.size w w') : But N w w' := ⟨h.os, h.tape, h.output, h.size, fun g hg _ => h.block g hg⟩
theorem But.refl (N : Nat → Prop) (w : World) : But N w w := But.of_below (Below.refl _ _)
theorem But.trans (h : But N w w') (k : But N w' w'') : But N w w'' := ⟨k.os.trans h.os, k.tape.trans h.tape, k.output.trans h.output, Nat.le_trans h.size k.size, fun g hg hn => (k.block g (Nat.lt_of_lt_of_le hg h.size) hn).trans (h.block g hg hn)⟩
theorem But.mono (h : But N w w') (hN : ∀ g, N g → N' g) : But N' w w' := ⟨h.os, h.tape, h.output, h.size, fun g hg hn => h.block g hg fun hg' => hn (hN g hg')⟩
theorem But.below {B : Nat} (h : But N w w') (hB : B ≤ w.heap.size) (hN : ∀ g, g < B → ¬ N g) : Below B w w' := ⟨h.os, h.tape, h.output, h.size, fun g hg => h.block g (by omega) (hN g hg)⟩
theorem But.grown {row : Option Nat} (h : w.grownBy w' row) (hr : ∀ r, row = some r → N r) : But N w w' := ⟨h.os, h.tape, h.output, h.size, fun g hg hn => h.block g hg (fun e => hn (hr g e.symm))⟩
theorem But.alloc (h : But N w w') (o : Obj) : But N w (w'.alloc o) := h.trans (But.of_below ((Below.refl _ _).alloc (Nat.le_refl _) _))
theorem But.set (h : But N w w') {p : Addr} (hp : N p.block ∨ w.heap.size ≤ p.block) (u : Value) : But N w (w'.setCell p u) :=
  ⟨h.os, h.tape, h.output, by simpa [World.setCell] using h.size, fun g hg hn => (Below.heap_setCell w' p u g (by rintro rfl; rcases hp with hp | hp; exact hn hp; omega)).trans (h.block g hg hn)⟩
/-- Blocks made meanwhile may be written. -/
theorem But.more (h : But N w w') (k : But N' w' w'') (hN : ∀ g, N' g → N g ∨ w.heap.size ≤ g) : But N w w'' :=
  ⟨k.os.trans h.os, k.tape.trans h.tape, k.output.trans h.output, Nat.le_trans h.size k.size, fun g hg hn => (k.block g (Nat.lt_of_lt_of_le hg h.size) (fun h' => (hN g h').elim hn (fun h'' => by omega))).trans (h.block g hg hn)⟩
theorem But.blk {g : Nat} {t : TypeId} {cs : Array Value} (h : But N w w') (hb : Blk w g t cs) (hn : ¬ N g) : Blk w' g t cs := (h.block g hb.lt hn).trans hb
theorem But.cell (h : But N w w') {p : Addr} (hp : p.block < w.heap.size) (hn : ¬ N p.block) : w'.cell? p = w.cell? p := World.cell?_of_block (h.block p.block hp hn)
end
/-- A row that is gathered is kept where blocks beside it are written. -/
theorem rowM_but {sent : Nat → List (List Value)} {X : Type} {f : X → List T} {s : Nat} {et : TypeId} {box : Option Nat} {N m : Nat} {M : Nat → Prop} {wr w' : World} {v : Value} {xs : List X} (h : RowM sent et s f box N m wr v xs) (hb : But M wr w') (hM : ∀ g, M g → g < N ∨ m ≤ g) (hm : m ≤ wr.heap.size) : RowM sent et s f box N m w' v xs := by
  obtain ⟨cs, ho, hl, ha⟩ := h
  have hk : ∀ g, N ≤ g → g < m → w'.heap[g]? = wr.heap[g]? := fun g h1 h2 => hb.block g (by omega) fun hg => by have := hM g hg; omega
  refine ⟨cs, ⟨ho.1, ho.2.elim .inl fun ⟨g, cap, cur, hv, h1, h2, h3⟩ => .inr ⟨g, cap, cur, hv, h1, (hk g h1 (hl g (by rw [hv]; rfl))).trans h2, h3⟩⟩, hl, ?_⟩
  exact AtL.keep (fun p hp => World.cell?_of_block (hk p.block hp.1 hp.2.1)) (fun g hg => ⟨hg.1, hg.2.1, hg.2.2.1.of (hk g hg.1 hg.2.1), hg.2.2.2⟩) ha
end Go.Proofs.YtfckomjbgopmaaaGreatDoor.Tree
end
section
namespace OrdP
open Go.Lib Go

def digB (b : UInt8) : Bool := decide (48 ≤ b.toNat ∧ b.toNat ≤ 57)
def valG (acc : Nat) : List UInt8 → Nat
  | [] => acc
  | c :: r => valG (acc * 10 + (c.toNat - 48)) r
def val (l : List UInt8) : Nat := valG 0 l
def zeros (n : Nat) : List UInt8 := List.replicate n 48
def fin (below : Bool) (ds : List UInt8) : Option Int :=
  if below then (if val ds ≤ 9223372036854775808 then some (-(val ds : Int)) else none) else if val ds < 9223372036854775808 then some (val ds : Int) else none
def below (l : List UInt8) : Bool := decide (l.head? = some 45)
def size (l : List UInt8) : List UInt8 := if below l then l.drop 1 else l
/-- What a text says as a decimal. -/
def decF (l : List UInt8) (scale : Nat) : Option Int :=
  let w := (size l).takeWhile digB
  let r := (size l).dropWhile digB
  if w.length = 0 ∨ 19 < w.length ∨ (1 < w.length ∧ w.getD 0 0 = 48) then none
  else if r = [] then fin (below l) (w ++ zeros scale)
  else if r.getD 0 0 = 46 ∧ (r.drop 1).all digB = true ∧ 1 ≤ (r.drop 1).length ∧ (r.drop 1).length ≤ scale then fin (below l) (w ++ r.drop 1 ++ zeros (scale - (r.drop 1).length))
  else none

theorem valG_append : ∀ (a b : List UInt8) (acc : Nat), valG acc (a ++ b) = valG (valG acc a) b
  | [], _, _ => rfl
  | c :: a, b, acc => by show valG _ (a ++ b) = _; rw [valG_append a b]; rfl
theorem valG_le : ∀ (l : List UInt8) (acc : Nat), acc ≤ valG acc l
  | [], _ => Nat.le_refl _
  | c :: l, acc => by
    have := valG_le l (acc * 10 + (c.toNat - 48))
    show acc ≤ valG _ l
    omega
theorem zeros_digits (n : Nat) : (zeros n).all digB = true := by
  rw [List.all_eq_true]; intro x hx; rw [(List.mem_replicate.1 hx).2]; rfl

/-! ### The library's parser at digits -/
theorem parseM_step (M acc : Nat) (c : UInt8) (l : List UInt8) (hc : 48 ≤ c.toNat ∧ c.toNat ≤ 57) :
    parseUintM M acc (c :: l) = if 1844674407370955162 ≤ acc then .range else if M < acc * 10 + (c.toNat - 48) then .range else parseUintM M (acc * 10 + (c.toNat - 48)) l := by
  rw [parseUintM, if_pos hc]
theorem parseM_digits (M : Nat) (hM : M = 18446744073709551615) (l : List UInt8) : ∀ (acc : Nat), acc ≤ M → l.all digB = true → parseUintM M acc l = if valG acc l ≤ M then .ok (valG acc l) else .range := by
  induction l with
  | nil => intro acc ha _; exact (if_pos ha).symm
  | cons c l ih =>
    intro acc _ h
    simp only [List.all_cons, Bool.and_eq_true] at h
    have hc : 48 ≤ c.toNat ∧ c.toNat ≤ 57 := of_decide_eq_true h.1
    have hle := valG_le l (acc * 10 + (c.toNat - 48))
    have e : valG acc (c :: l) = valG (acc * 10 + (c.toNat - 48)) l := rfl
    rw [parseM_step M acc c l hc, e]
    by_cases h1 : 1844674407370955162 ≤ acc
    · have hn : ¬ valG (acc * 10 + (c.toNat - 48)) l ≤ M := by omega
      exact (if_pos h1).trans (if_neg hn).symm
    · refine (if_neg h1).trans ?_
      by_cases h2 : M < acc * 10 + (c.toNat - 48)
      · have hn : ¬ valG (acc * 10 + (c.toNat - 48)) l ≤ M := by omega
        exact (if_pos h2).trans (if_neg hn).symm
      · have h3 : acc * 10 + (c.toNat - 48) ≤ M := by omega
        exact (if_neg h2).trans (ih _ h3 h.2)
theorem head_digit {c : UInt8} {l : List UInt8} (h : (c :: l).all digB = true) : c.toNat ≠ 43 ∧ c.toNat ≠ 45 := by
  simp only [List.all_cons, Bool.and_eq_true] at h
  have hc : 48 ≤ c.toNat ∧ c.toNat ≤ 57 := of_decide_eq_true h.1
  omega
def endOf : Option Int → NumEnd Int
  | some v => .ok v
  | none => .range
theorem parseU_digits (l : List UInt8) (hne : l ≠ []) (h : l.all digB = true) : parseUintB 64 l = if val l ≤ 18446744073709551615 then .ok (val l) else .range := by
  unfold parseUintB
  rw [if_neg hne, parseM_digits _ (by rfl) l 0 (by omega) h]
  rfl
/-- 'ParseInt' of a sign and digits. -/
theorem parse_fin (b : Bool) (l : List UInt8) (hne : l ≠ []) (h : l.all digB = true) : parseIntB 64 (if b then 45 :: l else l) = endOf (fin b l) := by
  cases b with
  | true =>
    rw [if_pos rfl, parseIntB_minus, parseU_digits l hne h]
    unfold fin
    rw [if_pos rfl]
    by_cases h1 : val l ≤ 9223372036854775808
    · rw [if_pos (by omega), if_pos h1]
      simp only [signedC, endOf]
      rw [if_neg (by omega)]
    · rw [if_neg h1]
      by_cases h2 : val l ≤ 18446744073709551615
      · rw [if_pos h2]; simp only [signedC, endOf]; rw [if_pos (by omega)]
      · rw [if_neg h2]; rfl
  | false =>
    obtain ⟨c, r, rfl⟩ : ∃ c r, l = c :: r := by cases l with | nil => exact (hne rfl).elim | cons c r => exact ⟨c, r, rfl⟩
    obtain ⟨h43, h45⟩ := head_digit h
    simp only [Bool.false_eq_true, if_false]
    rw [parseIntB_plain 64 c r h43 h45, parseU_digits _ hne h]
    unfold fin
    simp only [Bool.false_eq_true, if_false]
    by_cases h1 : val (c :: r) < 9223372036854775808
    · rw [if_pos (by omega), if_pos h1]
      simp only [signlessC, endOf]
      rw [if_neg (by omega)]
    · rw [if_neg h1]
      by_cases h2 : val (c :: r) ≤ 18446744073709551615
      · rw [if_pos h2]; simp only [signlessC, endOf]; rw [if_pos (by omega)]
      · rw [if_neg h2]; rfl

/-! ### The document's sum, below 0 -/
/-! ### The program's way: cut at the first point -/
theorem take_all (p : UInt8 → Bool) : ∀ l : List UInt8, l.all p = true → l.takeWhile p = l ∧ l.dropWhile p = []
  | [], _ => ⟨rfl, rfl⟩
  | c :: l, h => by
    simp only [List.all_cons, Bool.and_eq_true] at h
    obtain ⟨h1, h2⟩ := take_all p l h.2
    simp [h.1, h1, h2]
theorem take_app (p : UInt8 → Bool) : ∀ (l r : List UInt8), l.all p = true → (∀ c, r.head? = some c → p c = false) → (l ++ r).takeWhile p = l ∧ (l ++ r).dropWhile p = r
  | [], [], _, _ => ⟨rfl, rfl⟩
  | [], c :: r, _, h => by have := h c rfl; simp [this]
  | c :: l, r, h, hr => by
    simp only [List.all_cons, Bool.and_eq_true] at h
    obtain ⟨h1, h2⟩ := take_app p l r h.2 hr
    simp [h.1, h1, h2]
theorem take_stop (p : UInt8 → Bool) : ∀ (l r : List UInt8), l.all p = false → (∃ c, ((l ++ r).dropWhile p).head? = some c ∧ c ∈ l ∧ p c = false)
  | [], _, h => by cases h
  | c :: l, r, h => by
    by_cases hc : p c = true
    · simp only [List.all_cons, hc, Bool.true_and] at h
      obtain ⟨d, h1, h2, h3⟩ := take_stop p l r h
      exact ⟨d, by rw [List.cons_append, List.dropWhile_cons, if_pos hc]; exact h1, by simp [h2], h3⟩
    · have hc' : p c = false := by simpa using hc
      exact ⟨c, by simp [hc'], by simp, hc'⟩

/-- Digits alone, from and to so many. -/
def digsF (l : List UInt8) (a b : Nat) : Bool := decide (a ≤ l.length ∧ l.length ≤ b) && l.all digB
/-- What the program asks of the two parts. -/
def okP (whole part : List UInt8) (point : Bool) (scale : Nat) : Bool :=
  digsF whole 1 19 && !(decide (1 < whole.length) && decide (whole.getD 0 0 = 48)) && (!point || digsF part 1 scale)
/-- The two parts: the text has no point; or its first one is behind 'whole'. -/
def CutAt (l whole part : List UInt8) (point : Bool) : Prop :=
  (point = false ∧ whole = l ∧ part = [] ∧ 46 ∉ l) ∨ (point = true ∧ l = whole ++ 46 :: part ∧ 46 ∉ whole)
theorem decF_cut (l whole part : List UInt8) (point : Bool) (scale : Nat) (h : CutAt (size l) whole part point) :
    decF l scale = if okP whole part point scale then fin (below l) (whole ++ part ++ zeros (scale - part.length)) else none := by
  have hd46 : digB 46 = false := by decide
  unfold decF okP digsF
  rcases h with ⟨rfl, rfl, rfl, hno⟩ | ⟨rfl, hl, hno⟩
  · by_cases hw : (size l).all digB = true
    · obtain ⟨h1, h2⟩ := take_all digB _ hw
      simp only [h1, h2, hw, if_true, Bool.and_true, Bool.not_false, Bool.true_or, List.append_nil, List.length_nil, Nat.sub_zero]
      by_cases c : (size l).length = 0 ∨ 19 < (size l).length ∨ (1 < (size l).length ∧ (size l).getD 0 0 = 48)
      · rw [if_pos c, if_neg]
        simp only [Bool.and_eq_true, decide_eq_true_eq, Bool.not_eq_true', Bool.and_eq_false_imp, decide_eq_false_iff_not]
        rintro ⟨c1, c2⟩
        rcases c with c | c | c
        · omega
        · omega
        · exact c2 c.1 c.2
      · rw [if_neg c, if_pos]
        simp only [Bool.and_eq_true, decide_eq_true_eq, Bool.not_eq_true', Bool.and_eq_false_imp, decide_eq_false_iff_not]
        exact ⟨by omega, fun c1 c2 => c (.inr (.inr ⟨c1, c2⟩))⟩
    · have hw' : (size l).all digB = false := by simpa using hw
      obtain ⟨c, hc, hm, hn⟩ := take_stop digB (size l) [] hw'
      rw [List.append_nil] at hc
      have hne : (size l).dropWhile digB ≠ [] := by intro e; rw [e] at hc; cases hc
      have hc46 : ((size l).dropWhile digB).getD 0 0 ≠ 46 := by
        intro e
        cases hx : (size l).dropWhile digB with
        | nil => exact hne hx
        | cons d r =>
          rw [hx] at hc e
          have : d = c := Option.some.inj hc
          rw [List.getD_cons_zero] at e
          rw [← this, e] at hm
          exact hno hm
      simp only [hw', Bool.and_false, Bool.false_and, Bool.false_eq_true, if_false]
      by_cases c1 : ((size l).takeWhile digB).length = 0 ∨ 19 < ((size l).takeWhile digB).length ∨ (1 < ((size l).takeWhile digB).length ∧ ((size l).takeWhile digB).getD 0 0 = 48)
      · rw [if_pos c1]
      · rw [if_neg c1, if_neg hne, if_neg (fun h => hc46 h.1)]
  · rw [hl]
    by_cases hw : whole.all digB = true
    · obtain ⟨h1, h2⟩ := take_app digB whole (46 :: part) hw (by intro c hc; cases hc; exact hd46)
      simp only [h1, h2, hw, Bool.and_true, Bool.not_true, Bool.false_or, List.getD_cons_zero, true_and, List.drop_succ_cons, List.drop_zero]
      by_cases c : whole.length = 0 ∨ 19 < whole.length ∨ (1 < whole.length ∧ whole.getD 0 0 = 48)
      · rw [if_pos c, if_neg]
        simp only [Bool.and_eq_true, decide_eq_true_eq, Bool.not_eq_true', Bool.and_eq_false_imp, decide_eq_false_iff_not]
        rintro ⟨⟨c1, c2⟩, _⟩
        rcases c with c | c | c
        · omega
        · omega
        · exact c2 c.1 c.2
      · rw [if_neg c, if_neg (by simp)]
        have e : ((decide (1 ≤ whole.length ∧ whole.length ≤ 19) && !(decide (1 < whole.length) && decide (whole.getD 0 0 = 48))) && (decide (1 ≤ part.length ∧ part.length ≤ scale) && part.all digB)) = decide (part.all digB = true ∧ 1 ≤ part.length ∧ part.length ≤ scale) := by
          rw [Bool.eq_iff_iff]
          simp only [Bool.and_eq_true, decide_eq_true_eq, Bool.not_eq_true', Bool.and_eq_false_imp, decide_eq_false_iff_not]
          constructor
          · rintro ⟨_, h1, h2⟩; exact ⟨h2, h1⟩
          · rintro ⟨h1, h2⟩; exact ⟨⟨by omega, fun c1 c2 => c (.inr (.inr ⟨c1, c2⟩))⟩, h2, h1⟩
        rw [e]
        simp only [decide_eq_true_eq]
    · have hw' : whole.all digB = false := by simpa using hw
      obtain ⟨c, hc, hm, hn⟩ := take_stop digB whole (46 :: part) hw'
      have hne : (whole ++ 46 :: part).dropWhile digB ≠ [] := by intro e; rw [e] at hc; cases hc
      have hc46 : ((whole ++ 46 :: part).dropWhile digB).getD 0 0 ≠ 46 := by
        intro e
        cases hx : (whole ++ 46 :: part).dropWhile digB with
        | nil => exact hne hx
        | cons d r =>
          rw [hx] at hc e
          have : d = c := Option.some.inj hc
          rw [List.getD_cons_zero] at e
          rw [← this, e] at hm
          exact hno hm
      simp only [hw', Bool.and_false, Bool.false_and, Bool.false_eq_true, if_false]
      by_cases c1 : ((whole ++ 46 :: part).takeWhile digB).length = 0 ∨ 19 < ((whole ++ 46 :: part).takeWhile digB).length ∨ (1 < ((whole ++ 46 :: part).takeWhile digB).length ∧ ((whole ++ 46 :: part).takeWhile digB).getD 0 0 = 48)
      · rw [if_pos c1]
      · rw [if_neg c1, if_neg hne, if_neg (fun h => hc46 h.1)]
end OrdP
end
