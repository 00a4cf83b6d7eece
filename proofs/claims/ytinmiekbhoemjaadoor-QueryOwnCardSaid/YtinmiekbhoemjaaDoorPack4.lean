/- Small laws of rows that a call owns: across a call that only makes memory; two rows of different elements. Decimals as plain Lean functions: what a text says, how a number is written, and that what is written is read again. How a number is written, as a plain Lean function; what is written is read again. Contracts: the document's answers of layer 7: a decimal read, digit by digit. What the library's functions give layer 7: a text's digits, a cut at the first point, zeros, a number's text; the variables of the library that they read. The variables that the Query cards list: out of a row's laid list, and a world of the witness in which they lie. -/
import Derived.Test.YtinmiekbhoemjaaDoorPack2
import Derived.Test.YtinmiekbhoemjaaDoorWords
import Derived.Lib.ParseIntBCases
import Derived.Lib.IndexMore
import Derived.Lib.Repeat
import Derived.Lib.ItoaNum
import Derived.Test.YtinmiekbhoemjaaDoorChecked
import Derived.WalkKit
import Derived.LoopTactic
import Derived.OwnWalk
import Derived.Deep.DeepCutAuto
import Derived.Test.YtinmiekbhoemjaaDoorShelf
import Derived.Lib.TrimUEq
import Derived.Lib.MapLaws
import Derived.Lib.SmallJoins
import Derived.Lib.LaidTab
import Derived.Deep.Light
import Derived.Shelf.GgClosure.StringsIndexFunc
import Derived.Test.YtinmiekbhoemjaaDoorRows
import Derived.Stop.LaidErr
import Derived.Deep.DeepLaidRun
section
namespace Go.Proofs.YtinmiekbhoemjaaDoor.Owned
open Go.RowKit Kit Words

/-- Two rows of different elements never share a block. -/
theorem own_own_ne {w : World} {B B' n n' m m' : Nat} {e e' : TypeId} {v v' : Value} {xs xs' : List Value} (h : w.ownsRow B e m v n xs) (h' : w.ownsRow B' e' m' v' n' xs') (hne : e ≠ e') : v.ownBlock = none ∨ v.ownBlock ≠ v'.ownBlock := by
  rcases h.2 with ⟨rfl, _⟩ | ⟨g, cap, cur, rfl, _, hg, _⟩
  · exact .inl rfl
  · right
    rcases h'.2 with ⟨rfl, _⟩ | ⟨g', cap', cur', rfl, _, hg', _⟩
    · simp [Value.ownBlock]
    · intro hh
      simp only [Value.ownBlock, Option.some.injEq] at hh
      subst hh
      rw [hg] at hg'
      injection hg' with hg'
      injection hg' with _ ht
      exact hne ht
theorem own_below {w w' : World} {B n m : Nat} {e : TypeId} {v : Value} {xs : List Value} (h : w.ownsRow B e m v n xs) (hb : Below w.heap.size w w') : w'.ownsRow B e m v n xs :=
  h.kept (only_of_below hb none) (by cases hv : v.ownBlock <;> simp)
/-- Its length and capacity are written out, whatever its address. -/
theorem own_slice {w : World} {B n : Nat} {e : TypeId} {v : Value} {xs : List Value} (h : w.ownsRow B e 1 v n xs) : ∃ ao cap, v = .slice ao n cap := by
  rcases h.2 with ⟨rfl, h0⟩ | ⟨g, cap, cur, rfl, _⟩
  · exact ⟨none, 0, by rw [h0]⟩
  · exact ⟨_, _, rfl⟩
theorem own_cell {w : World} {B n : Nat} {e : TypeId} {ao : Option Addr} {cap : Nat} {xs : List Value} (h : w.ownsRow B e 1 (.slice ao n cap) n xs) {i : Nat} (hi : i < n) : ∃ g, ao = some ⟨g, 0, none⟩ ∧ B ≤ g ∧ g < w.heap.size ∧ ∀ j u, xs[j]? = some u → w.cell? ⟨g, j, none⟩ = some u := by
  rcases h.2 with ⟨hv, h0⟩ | ⟨g, cap', cur, hv, hb, hg, _⟩
  · omega
  · injection hv with ha _ _
    refine ⟨g, ha, hb, (Array.getElem?_eq_some_iff.1 hg).1, fun j u hu => ?_⟩
    have := h.cells (g := g) (by rw [ha]; rfl) j u hu
    have hadd : (⟨g, 0, none⟩ : Addr).add j = ⟨g, j, none⟩ := by unfold Addr.add; split <;> simp_all
    rwa [hadd] at this
/-- A row is kept where a block below its base is written. -/
theorem own_setCell {w : World} {B n m : Nat} {e : TypeId} {v : Value} {xs : List Value} (h : w.ownsRow B e m v n xs) {a : Addr} (ha : a.block < B) (u : Value) : (w.setCell a u).ownsRow B e m v n xs := ownsRow_setCell_below h ha u
theorem own_setCell_ne {w : World} {B n m : Nat} {e : TypeId} {v : Value} {xs : List Value} (h : w.ownsRow B e m v n xs) {a : Addr} (ha : v.ownBlock ≠ some a.block) (u : Value) : (w.setCell a u).ownsRow B e m v n xs := by
  refine h.kept (row := some a.block) ⟨rfl, rfl, rfl, by simp [World.setCell], fun k _ hk => Below.heap_setCell _ _ _ _ (fun e => hk (by rw [e]))⟩ (.inr ha)
end Go.Proofs.YtinmiekbhoemjaaDoor.Owned
end
section
namespace OrdP
open Go.Lib Go

def digB (b : UInt8) : Bool := decide (48 ≤ b.toNat ∧ b.toNat ≤ 57)
def valG (acc : Nat) : List UInt8 → Nat
  | [] => acc
  | c :: r => valG (acc * 10 + (c.toNat - 48)) r
def val (l : List UInt8) : Nat := valG 0 l
def zeros (n : Nat) : List UInt8 := List.replicate n 48
def fin (below : Bool) (ds : List UInt8) : Option Int :=
  if below then (if val ds ≤ 9223372036854775808 then some (-(val ds : Int)) else none) else if val ds < 9223372036854775808 then some (val ds : Int) else none
def below (l : List UInt8) : Bool := decide (l.head? = some 45)
def size (l : List UInt8) : List UInt8 := if below l then l.drop 1 else l
theorem valG_append : ∀ (a b : List UInt8) (acc : Nat), valG acc (a ++ b) = valG (valG acc a) b
  | [], _, _ => rfl
  | c :: a, b, acc => by show valG _ (a ++ b) = _; rw [valG_append a b]; rfl
theorem valG_le : ∀ (l : List UInt8) (acc : Nat), acc ≤ valG acc l
  | [], _ => Nat.le_refl _
  | c :: l, acc => by
    have := valG_le l (acc * 10 + (c.toNat - 48))
    show acc ≤ valG _ l
    omega
/-! ### The library's parser at digits -/
theorem parseM_step (M acc : Nat) (c : UInt8) (l : List UInt8) (hc : 48 ≤ c.toNat ∧ c.toNat ≤ 57) :
    parseUintM M acc (c :: l) = if 1844674407370955162 ≤ acc then .range else if M < acc * 10 + (c.toNat - 48) then .range else parseUintM M (acc * 10 + (c.toNat - 48)) l := by
  rw [parseUintM, if_pos hc]
theorem parseM_digits (M : Nat) (hM : M = 18446744073709551615) (l : List UInt8) : ∀ (acc : Nat), acc ≤ M → l.all digB = true → parseUintM M acc l = if valG acc l ≤ M then .ok (valG acc l) else .range := by
  induction l with
  | nil => intro acc ha _; exact (if_pos ha).symm
  | cons c l ih =>
    intro acc _ h
    simp only [List.all_cons, Bool.and_eq_true] at h
    have hc : 48 ≤ c.toNat ∧ c.toNat ≤ 57 := of_decide_eq_true h.1
    have hle := valG_le l (acc * 10 + (c.toNat - 48))
    have e : valG acc (c :: l) = valG (acc * 10 + (c.toNat - 48)) l := rfl
    rw [parseM_step M acc c l hc, e]
    by_cases h1 : 1844674407370955162 ≤ acc
    · have hn : ¬ valG (acc * 10 + (c.toNat - 48)) l ≤ M := by omega
      exact (if_pos h1).trans (if_neg hn).symm
    · refine (if_neg h1).trans ?_
      by_cases h2 : M < acc * 10 + (c.toNat - 48)
      · have hn : ¬ valG (acc * 10 + (c.toNat - 48)) l ≤ M := by omega
        exact (if_pos h2).trans (if_neg hn).symm
      · have h3 : acc * 10 + (c.toNat - 48) ≤ M := by omega
        exact (if_neg h2).trans (ih _ h3 h.2)
theorem head_digit {c : UInt8} {l : List UInt8} (h : (c :: l).all digB = true) : c.toNat ≠ 43 ∧ c.toNat ≠ 45 := by
  simp only [List.all_cons, Bool.and_eq_true] at h
  have hc : 48 ≤ c.toNat ∧ c.toNat ≤ 57 := of_decide_eq_true h.1
  omega
def endOf : Option Int → NumEnd Int
  | some v => .ok v
  | none => .range
theorem parseU_digits (l : List UInt8) (hne : l ≠ []) (h : l.all digB = true) : parseUintB 64 l = if val l ≤ 18446744073709551615 then .ok (val l) else .range := by
  unfold parseUintB
  rw [if_neg hne, parseM_digits _ (by rfl) l 0 (by omega) h]
  rfl
/-- 'ParseInt' of a sign and digits. -/
theorem parse_fin (b : Bool) (l : List UInt8) (hne : l ≠ []) (h : l.all digB = true) : parseIntB 64 (if b then 45 :: l else l) = endOf (fin b l) := by
  cases b with
  | true =>
    rw [if_pos rfl, parseIntB_minus, parseU_digits l hne h]
    unfold fin
    rw [if_pos rfl]
    by_cases h1 : val l ≤ 9223372036854775808
    · rw [if_pos (by omega), if_pos h1]
      simp only [signedC, endOf]
      rw [if_neg (by omega)]
    · rw [if_neg h1]
      by_cases h2 : val l ≤ 18446744073709551615
      · rw [if_pos h2]; simp only [signedC, endOf]; rw [if_pos (by omega)]
      · rw [if_neg h2]; rfl
  | false =>
    obtain ⟨c, r, rfl⟩ : ∃ c r, l = c :: r := by cases l with | nil => exact (hne rfl).elim | cons c r => exact ⟨c, r, rfl⟩
    obtain ⟨h43, h45⟩ := head_digit h
    simp only [Bool.false_eq_true, if_false]
    rw [parseIntB_plain 64 c r h43 h45, parseU_digits _ hne h]
    unfold fin
    simp only [Bool.false_eq_true, if_false]
    by_cases h1 : val (c :: r) < 9223372036854775808
    · rw [if_pos (by omega), if_pos h1]
      simp only [signlessC, endOf]
      rw [if_neg (by omega)]
    · rw [if_neg h1]
      by_cases h2 : val (c :: r) ≤ 18446744073709551615
      · rw [if_pos h2]; simp only [signlessC, endOf]; rw [if_pos (by omega)]
      · rw [if_neg h2]; rfl

/-! ### The document's sum, below 0 -/
/-! ### The program's way: cut at the first point -/
theorem take_all (p : UInt8 → Bool) : ∀ l : List UInt8, l.all p = true → l.takeWhile p = l ∧ l.dropWhile p = []
  | [], _ => ⟨rfl, rfl⟩
  | c :: l, h => by
    simp only [List.all_cons, Bool.and_eq_true] at h
    obtain ⟨h1, h2⟩ := take_all p l h.2
    simp [h.1, h1, h2]
end OrdP
end
section
namespace OrdP
open Go.Lib Go

/-- The k last digits of u. -/
def lowD : Nat → Nat → List UInt8
  | _, 0 => []
  | u, k + 1 => lowD (u / 10) k ++ [UInt8.ofNat (48 + u % 10)]
theorem dig_nat (u : Nat) : (UInt8.ofNat (48 + u % 10)).toNat = 48 + u % 10 := by
  rw [UInt8.toNat_ofNat']; omega
theorem lowD_digits : ∀ (k u : Nat), (lowD u k).all digB = true
  | 0, _ => rfl
  | k + 1, u => by
    rw [lowD, List.all_append, lowD_digits k, Bool.true_and]
    simp only [List.all_cons, List.all_nil, Bool.and_true, digB]
    rw [dig_nat]; simp; omega
theorem lowD_val : ∀ (k u acc : Nat), valG acc (lowD u k) = acc * 10 ^ k + u % 10 ^ k
  | 0, u, acc => by
    show acc = acc * 10 ^ 0 + u % 10 ^ 0
    rw [Nat.pow_zero, Nat.mul_one, Nat.mod_one]; rfl
  | k + 1, u, acc => by
    rw [lowD, valG_append, lowD_val k]
    show (acc * 10 ^ k + u / 10 % 10 ^ k) * 10 + ((UInt8.ofNat (48 + u % 10)).toNat - 48) = _
    rw [dig_nat, Nat.pow_succ]
    have h : u % (10 ^ k * 10) = u % 10 + 10 * (u / 10 % 10 ^ k) := by rw [Nat.mul_comm, Nat.mod_mul]
    rw [h, Nat.add_mul, Nat.mul_assoc]
    omega
theorem nd_one {u : Nat} (h : u < 10) : nDigits u = 1 := nDigits_small h
theorem decDigits_low : ∀ (n u : Nat), u < 10 ^ n → decDigits u = lowD u (nDigits u)
  | 0, u, h => by
    have : u = 0 := by simpa using h
    subst this
    rw [nd_one (by omega), decDigits, dif_pos (by omega)]; rfl
  | n + 1, u, h => by
    by_cases h1 : u < 10
    · rw [nd_one h1, decDigits, dif_pos h1, lowD, lowD, Nat.mod_eq_of_lt h1]; rfl
    · rw [decDigits, dif_neg h1, nDigits_big h1, lowD, decDigits_low n (u / 10) (by rw [Nat.pow_succ] at h; omega)]
theorem decDigits_eq_low (u : Nat) : decDigits u = lowD u (nDigits u) := decDigits_low (nDigits u) u (lt_pow_nDigits u)
end OrdP
end
section
set_option linter.unusedVariables false
namespace Go.Proofs.YtinmiekbhoemjaaDoor.OrdRef
open Go.RowKit Go.Lib OrdP Kit Words Owned

end Go.Proofs.YtinmiekbhoemjaaDoor.OrdRef
end
section
set_option linter.unusedVariables false
namespace OrdP
open Go.Lib Go

end OrdP
namespace Go.Proofs.YtinmiekbhoemjaaDoor.OrdLib
open Go.RowKit Go.Lib OrdP Kit OrdRef

/-- The library's variables that layer 7 reads. -/
structure OTabs (w : World) : Prop where
  max : ∃ m, w.cell? ⟨0, 0, none⟩ = some (.int .i64 m)
  range : ∃ ev, w.cell? ⟨3, 0, none⟩ = some ev ∧ (ev = .nilIface ∨ ∃ te pe, ev = .iface te pe)
  pow : Lib.TabIs Tryd.prog w "internal/strconv.uint64pow10" .u64 Lib.pow10Tab
theorem OTabs.next {w w' : World} (h : OTabs w) (hb : Below w.heap.size w w') : OTabs w' := by
  obtain ⟨⟨m, hm⟩, ⟨ev, he, hv⟩, hp⟩ := h
  exact ⟨⟨m, (hb.cell (World.block_lt_of_cell? w _ hm)).trans hm⟩, ⟨ev, (hb.cell (World.block_lt_of_cell? w _ he)).trans he, hv⟩, Go.Joins.tab_stays (g := 1) (by kernel_rfl) hp hb (Nat.le_refl _)⟩

theorem below_drewN' {w : World} (n : Nat) : Below w.heap.size w (w.drewN n) := ⟨rfl, rfl, rfl, Nat.le_refl _, fun _ _ => rfl⟩

def BoolB (b : Bool) (w : World) (e : Ending) (w' : World) : Prop := e = .returned (.bool b) ∧ Below w.heap.size w w'
def StrB (l : List UInt8) (w : World) (e : Ending) (w' : World) : Prop := e = .returned (.string (str l)) ∧ Below w.heap.size w w'

end Go.Proofs.YtinmiekbhoemjaaDoor.OrdLib
end
section
set_option linter.unusedVariables false
namespace Go.Proofs.YtinmiekbhoemjaaDoor.QryTabs
open Go.RowKit Go.Lib OrdP Kit OrdLib
theorem gP : Tryd.prog.globalNamed "internal/strconv.uint64pow10" = some 1 := by kernel_rfl
theorem gPt : (Tryd.prog.globals[1]?).map (·.type) = some 112 := by kernel_rfl
theorem gR : Tryd.prog.globalNamed "strconv.ErrRange" = some 3 := by kernel_rfl
theorem gRt : (Tryd.prog.globals[3]?).map (·.type) = some 63 := by kernel_rfl
theorem row_err (u : TypeId) (h : Tryd.prog.typeName? 3 u = some "*errors.errorString") : u = 123 :=
  typeName_ptr_named (nm := "errors.errorString") (by rw [show "*" ++ "errors.errorString" = "*errors.errorString" by decide]; kernel_rfl) (by kernel_rfl) (by decide) u (by rw [show "*" ++ "errors.errorString" = "*errors.errorString" by decide]; exact h)
theorem pow_eq : (Rows.laid_internal_strconv_uint64pow10 : DataW Unit) = Lib.tabData .u64 Lib.pow10Tab := by kernel_rfl
theorem pow_of {W : World} {a b : String × DataW Unit} {rest : List (String × DataW Unit)} (h : laidMet Tryd.prog (a :: b :: ("internal/strconv.uint64pow10", Lib.tabData .u64 Lib.pow10Tab) :: rest) W) :
    Lib.TabIs Tryd.prog W "internal/strconv.uint64pow10" .u64 Lib.pow10Tab :=
  tabIs_of_head gP gPt Tryd.underlying112 Tryd.underlying96 (by kernel_rfl) (by kernel_rfl) h.tail.tail
theorem otabs {W : World} {a b : String × DataW Unit} {text : List UInt8} {rest : List (String × DataW Unit)}
    (h : laidMet Tryd.prog (a :: b :: ("internal/strconv.uint64pow10", Lib.tabData .u64 Lib.pow10Tab) :: ("strconv.ErrRange", .iface "*errors.errorString" (.ptr (.agg [.lit (.string text)]))) :: rest) W)
    (hm : ∃ m, W.cell? ⟨0, 0, none⟩ = some (.int .i64 m)) : OTabs W := by
  obtain ⟨a0, s0, hv0, -, -, -⟩ := laid_sentinel h.tail.tail.tail gR gRt Tryd.underlying63 row_err Tryd.underlying123 Tryd.underlying125 rfl rfl Tryd.underlying9 (by kernel_rfl) (by kernel_rfl)
  have h0 := World.var?_cell gR hv0 0
  exact ⟨hm, ⟨.iface 123 (.pointer (some a0)), by simpa using h0, .inr ⟨_, _, rfl⟩⟩, pow_of h⟩
theorem maxlen {W : World} (h : W.ShapedOpen Tryd.prog) : ∃ m, W.cell? ⟨0, 0, none⟩ = some (.int .i64 m) :=
  Go.Proofs.cell_of_shapedOpen_int (zero := #[.int .i64 0]) (t := 3) h (of_decide_eq_true (by kernel_rfl)) (by kernel_rfl) rfl (by kernel_rfl) (by kernel_rfl) Tryd.underlying3
def valsOf : DataW Unit → Array Value
  | .agg l => (l.map fun | .lit (.int k z) => Value.int k z | _ => undef).toArray
  | _ => #[]
def textOf : DataW Unit → ByteArray
  | .iface _ (.ptr (.agg [.lit (.string l)])) => ⟨l.toArray⟩
  | _ => ⟨#[]⟩
noncomputable def laidWorld (os : Os) : World :=
  let w0 := World.holding Tryd.prog os ⟨#[.cells #[.string (textOf Rows.laid_strconv_ErrRange)] 125, .cells #[.string (textOf Rows.laid_strconv_ErrSyntax)] 125], #[], []⟩
  let put (h : Array Obj) (g : Nat) (cs : Array Value) : Array Obj := h.modify g fun
    | .cells _ t frozen => .cells cs t frozen
    | o => o
  let h1 := put w0.heap 4 (valsOf Rows.laid_math_bits_deBruijn32tab)
  let h2 := put h1 5 (valsOf Rows.laid_math_bits_deBruijn64tab)
  let h3 := put h2 1 (valsOf Rows.laid_internal_strconv_uint64pow10)
  let h4 := put h3 3 #[.iface 123 (.pointer (some ⟨Tryd.prog.low, 0, none⟩))]
  let h5 := put h4 2 #[.iface 123 (.pointer (some ⟨Tryd.prog.low + 1, 0, none⟩))]
  { w0 with heap := h5 }
end Go.Proofs.YtinmiekbhoemjaaDoor.QryTabs
/-! Three variables -/
namespace Go.Proofs.YtinmiekbhoemjaaDoor.QryTabs3
open Go.RowKit Go.Lib OrdP Kit OrdLib QryTabs
def laidL : List (String × DataW Unit) := [("math/bits.deBruijn32tab", Rows.laid_math_bits_deBruijn32tab), ("math/bits.deBruijn64tab", Rows.laid_math_bits_deBruijn64tab), ("internal/strconv.uint64pow10", Lib.tabData .u64 Lib.pow10Tab)]
noncomputable abbrev laidWorld := QryTabs.laidWorld
theorem laid_met (os : Os) (args : Array Value) : laidMet Tryd.prog laidL ((laidWorld os).forCall (fun _ _ => 0) ⟨#[], args, []⟩).memory := by
  unfold laidL
  rw [← pow_eq]
  exact laidMet_of_run3 8 (by kernel_rfl) (by kernel_rfl) (by kernel_rfl)
theorem pow {W : World} (h : laidMet Tryd.prog laidL W) : Lib.TabIs Tryd.prog W "internal/strconv.uint64pow10" .u64 Lib.pow10Tab := pow_of h
end Go.Proofs.YtinmiekbhoemjaaDoor.QryTabs3
/-! Five variables -/
namespace Go.Proofs.YtinmiekbhoemjaaDoor.QryTabs5
open Go.RowKit Go.Lib OrdP Kit OrdLib QryTabs
def laidL : List (String × DataW Unit) := [("math/bits.deBruijn32tab", Rows.laid_math_bits_deBruijn32tab), ("math/bits.deBruijn64tab", Rows.laid_math_bits_deBruijn64tab), ("internal/strconv.uint64pow10", Lib.tabData .u64 Lib.pow10Tab), ("strconv.ErrRange", Rows.laid_strconv_ErrRange), ("strconv.ErrSyntax", Rows.laid_strconv_ErrSyntax)]
noncomputable abbrev laidWorld := QryTabs.laidWorld
theorem laid_met (os : Os) (args : Array Value) : laidMet Tryd.prog laidL ((laidWorld os).forCall (fun _ _ => 0) ⟨#[], args, []⟩).memory := by
  unfold laidL
  rw [← pow_eq]
  exact laidMet_of_run3 8 (by kernel_rfl) (by kernel_rfl) (by kernel_rfl)
theorem tabs {W : World} (h : laidMet Tryd.prog laidL W) (hs : W.ShapedOpen Tryd.prog) : OTabs W := otabs (a := _) (b := _) h (maxlen hs)
end Go.Proofs.YtinmiekbhoemjaaDoor.QryTabs5
end
