/- Small laws of rows that a call owns: across a call that only makes memory; two rows of different elements. Decimals as plain Lean functions: what a text says, how a number is written, and that what is written is read again. How a number is written, as a plain Lean function; what is written is read again. Contracts: the document's answers of layer 7: a decimal read, digit by digit. What the library's functions give layer 7: a text's digits, a cut at the first point, zeros, a number's text; the variables of the library that they read. -/
import Derived.Test.YtinmiekbhoemjaaDoorPack2
import Derived.Test.YtinmiekbhoemjaaDoorWords
import Derived.Lib.ParseIntBCases
import Derived.Lib.IndexMore
import Derived.Lib.Repeat
import Derived.Lib.ItoaNum
import Derived.Test.YtinmiekbhoemjaaDoorChecked
import Derived.WalkKit
import Derived.LoopTactic
import Derived.OwnWalk
import Derived.Deep.DeepCutAuto
import Derived.Test.YtinmiekbhoemjaaDoorShelf
import Derived.Lib.TrimUEq
import Derived.Lib.MapLaws
import Derived.Lib.SmallJoins
import Derived.Lib.LaidTab
import Derived.Deep.Light
import Derived.Shelf.GgClosure.StringsIndexFunc
section
namespace Go.Proofs.YtinmiekbhoemjaaDoor.Owned
open Go.RowKit Kit Words

theorem own_below {w w' : World} {B n m : Nat} {e : TypeId} {v : Value} {xs : List Value} (h : w.ownsRow B e m v n xs) (hb : Below w.heap.size w w') : w'.ownsRow B e m v n xs :=
  h.kept (only_of_below hb none) (by cases hv : v.ownBlock <;> simp)
theorem own_len {w : World} {B n : Nat} {e : TypeId} {v : Value} {xs : List Value} (h : w.ownsRow B e 1 v n xs) : xs.length = n := by have := h.1; omega
/-- Its length and capacity are written out, whatever its address. -/
theorem own_slice {w : World} {B n : Nat} {e : TypeId} {v : Value} {xs : List Value} (h : w.ownsRow B e 1 v n xs) : ∃ ao cap, v = .slice ao n cap := by
  rcases h.2 with ⟨rfl, h0⟩ | ⟨g, cap, cur, rfl, _⟩
  · exact ⟨none, 0, by rw [h0]⟩
  · exact ⟨_, _, rfl⟩
theorem own_cell {w : World} {B n : Nat} {e : TypeId} {ao : Option Addr} {cap : Nat} {xs : List Value} (h : w.ownsRow B e 1 (.slice ao n cap) n xs) {i : Nat} (hi : i < n) : ∃ g, ao = some ⟨g, 0, none⟩ ∧ B ≤ g ∧ g < w.heap.size ∧ ∀ j u, xs[j]? = some u → w.cell? ⟨g, j, none⟩ = some u := by
  rcases h.2 with ⟨hv, h0⟩ | ⟨g, cap', cur, hv, hb, hg, _⟩
  · omega
  · injection hv with ha _ _
    refine ⟨g, ha, hb, (Array.getElem?_eq_some_iff.1 hg).1, fun j u hu => ?_⟩
    have := h.cells (g := g) (by rw [ha]; rfl) j u hu
    have hadd : (⟨g, 0, none⟩ : Addr).add j = ⟨g, j, none⟩ := by unfold Addr.add; split <;> simp_all
    rwa [hadd] at this
end Go.Proofs.YtinmiekbhoemjaaDoor.Owned
end
section
namespace OrdP
open Go.Lib Go

def digB (b : UInt8) : Bool := decide (48 ≤ b.toNat ∧ b.toNat ≤ 57)
def valG (acc : Nat) : List UInt8 → Nat
  | [] => acc
  | c :: r => valG (acc * 10 + (c.toNat - 48)) r
def val (l : List UInt8) : Nat := valG 0 l
def zeros (n : Nat) : List UInt8 := List.replicate n 48
def below (l : List UInt8) : Bool := decide (l.head? = some 45)
def size (l : List UInt8) : List UInt8 := if below l then l.drop 1 else l
/-! ### The library's parser at digits -/
/-! ### The document's sum, below 0 -/
/-! ### The program's way: cut at the first point -/
theorem take_all (p : UInt8 → Bool) : ∀ l : List UInt8, l.all p = true → l.takeWhile p = l ∧ l.dropWhile p = []
  | [], _ => ⟨rfl, rfl⟩
  | c :: l, h => by
    simp only [List.all_cons, Bool.and_eq_true] at h
    obtain ⟨h1, h2⟩ := take_all p l h.2
    simp [h.1, h1, h2]
end OrdP
end
section
namespace OrdP
open Go.Lib Go

/-- The k last digits of u. -/
def lowD : Nat → Nat → List UInt8
  | _, 0 => []
  | u, k + 1 => lowD (u / 10) k ++ [UInt8.ofNat (48 + u % 10)]
theorem lowD_length : ∀ (k u : Nat), (lowD u k).length = k
  | 0, _ => rfl
  | k + 1, u => by rw [lowD, List.length_append, lowD_length k]; rfl
theorem lowD_add (u : Nat) : ∀ (k j : Nat), lowD u (j + k) = lowD (u / 10 ^ k) j ++ lowD u k
  | 0, j => by simp [lowD]
  | k + 1, j => by
    rw [← Nat.add_assoc, lowD, lowD, lowD_add (u / 10) k j, List.append_assoc, Nat.div_div_eq_div_mul, Nat.pow_succ, Nat.mul_comm]
theorem nd_one {u : Nat} (h : u < 10) : nDigits u = 1 := nDigits_small h
theorem decDigits_low : ∀ (n u : Nat), u < 10 ^ n → decDigits u = lowD u (nDigits u)
  | 0, u, h => by
    have : u = 0 := by simpa using h
    subst this
    rw [nd_one (by omega), decDigits, dif_pos (by omega)]; rfl
  | n + 1, u, h => by
    by_cases h1 : u < 10
    · rw [nd_one h1, decDigits, dif_pos h1, lowD, lowD, Nat.mod_eq_of_lt h1]; rfl
    · rw [decDigits, dif_neg h1, nDigits_big h1, lowD, decDigits_low n (u / 10) (by rw [Nat.pow_succ] at h; omega)]
theorem decDigits_eq_low (u : Nat) : decDigits u = lowD u (nDigits u) := decDigits_low (nDigits u) u (lt_pow_nDigits u)
/-- How many digits are written. -/
def wide (u scale : Nat) : Nat := max (scale + 1) (nDigits u)
def textU (u scale : Nat) : List UInt8 := lowD (u / 10 ^ scale) (wide u scale - scale) ++ (if scale = 0 then [] else 46 :: lowD u scale)
/-- How a number is written. -/
def textF (n : Int) (scale : Nat) : List UInt8 := (if n < 0 then [45] else []) ++ textU n.natAbs scale

theorem wide_le (u scale : Nat) : scale + 1 ≤ wide u scale ∧ nDigits u ≤ wide u scale := by unfold wide; omega
theorem nd_pow (u : Nat) (h : 1 ≤ u) : 10 ^ (nDigits u - 1) ≤ u := by
  have key : ∀ n u, 1 ≤ u → u < 10 ^ n → 10 ^ (nDigits u - 1) ≤ u := by
    intro n
    induction n with
    | zero => intro u h1 h2; simp at h2; omega
    | succ n ih =>
      intro u h1 h2
      by_cases h3 : u < 10
      · rw [nd_one h3]; simpa using h1
      · rw [nDigits_big h3]
        have := ih (u / 10) (by omega) (by rw [Nat.pow_succ] at h2; omega)
        have hp := nDigits_pos (u / 10)
        obtain ⟨m, hm⟩ : ∃ m, nDigits (u / 10) = m + 1 := ⟨nDigits (u / 10) - 1, by omega⟩
        rw [hm] at this ⊢
        simp only [Nat.add_sub_cancel] at this ⊢
        rw [Nat.pow_succ]; omega
  exact key (nDigits u) u h (lt_pow_nDigits u)
theorem nd_le (u k : Nat) (h : u < 10 ^ k) (hk : 1 ≤ k) : nDigits u ≤ k := by
  rcases Nat.eq_zero_or_pos u with rfl | hu
  · rw [nd_one (by omega)]; exact hk
  · have := nd_pow u hu
    rcases Nat.lt_or_ge k (nDigits u) with h1 | h1
    · have := Nat.pow_le_pow_right (show 0 < 10 by omega) (show k ≤ nDigits u - 1 by omega)
      omega
    · exact h1
end OrdP
end
section
set_option linter.unusedVariables false
namespace Go.Proofs.YtinmiekbhoemjaaDoor.OrdRef
open Go.RowKit Go.Lib OrdP Kit Words Owned

theorem infoU8 : (Tryd.prog.info? 5).map (fun i => (i.zero, i.size, i.bytes)) = some (some (.int .u8 0), 1, 1) := by kernel_rfl

end Go.Proofs.YtinmiekbhoemjaaDoor.OrdRef
end
section
set_option linter.unusedVariables false
namespace OrdP
open Go.Lib Go

end OrdP
namespace Go.Proofs.YtinmiekbhoemjaaDoor.OrdLib
open Go.RowKit Go.Lib OrdP Kit OrdRef

/-- The library's variables that layer 7 reads. -/
structure OTabs (w : World) : Prop where
  max : ∃ m, w.cell? ⟨0, 0, none⟩ = some (.int .i64 m)
  range : ∃ ev, w.cell? ⟨3, 0, none⟩ = some ev ∧ (ev = .nilIface ∨ ∃ te pe, ev = .iface te pe)
  pow : Lib.TabIs Tryd.prog w "internal/strconv.uint64pow10" .u64 Lib.pow10Tab
theorem below_drewN' {w : World} (n : Nat) : Below w.heap.size w (w.drewN n) := ⟨rfl, rfl, rfl, Nat.le_refl _, fun _ _ => rfl⟩

def BoolB (b : Bool) (w : World) (e : Ending) (w' : World) : Prop := e = .returned (.bool b) ∧ Below w.heap.size w w'
def StrB (l : List UInt8) (w : World) (e : Ending) (w' : World) : Prop := e = .returned (.string (str l)) ∧ Below w.heap.size w w'

end Go.Proofs.YtinmiekbhoemjaaDoor.OrdLib
end
