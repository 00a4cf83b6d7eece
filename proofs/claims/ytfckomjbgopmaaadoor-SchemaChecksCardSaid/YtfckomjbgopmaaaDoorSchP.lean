/- Schemas, entries and cells as plain Lean data; which schemas may be, which entries are stored. -/
import Derived.Test.YtfckomjbgopmaaaDoorAnaRunP
import Derived.Test.YtfckomjbgopmaaaDoorNameP
namespace SchP
open AnaP

/-- A field; an entry; a cell. -/
structure FT where
  name : ByteArray
  kind : Int
  chain : List Int
  scale : Int
  dims : Int
  many : Bool
  stored : Bool
structure ET where
  field : ByteArray
  text : ByteArray
  nums : List Int
structure CT where
  field : Int
  text : ByteArray
  nums : List Int

/-- What a field may be, whatever the others are. -/
def kindB (f : FT) : Bool := if f.kind = 1 then checkB f.chain else if f.kind = 2 ∨ f.kind = 3 then true else if f.kind = 4 then decide (0 ≤ f.scale ∧ f.scale ≤ 9) else if f.kind = 5 then decide (1 ≤ f.dims ∧ f.dims ≤ 4) else false
def mayB (f : FT) : Bool := nameB f.name && (decide (f.kind = 1) || decide (f.chain.length = 0)) && (decide (f.kind = 4) || decide (f.scale = 0)) && (decide (f.kind = 5) || decide (f.dims = 0)) && kindB f

/-- A name's number. -/
def findF : List FT → ByteArray → Option Nat
  | [], _ => none
  | f :: l, s => if f.name = s then some 0 else (findF l s).map (· + 1)
def findZ (l : List FT) (s : ByteArray) : Int := match findF l s with
  | some i => i
  | none => -1
theorem findF_some : ∀ {l : List FT} {s : ByteArray} {i : Nat}, findF l s = some i → ∃ h : i < l.length, l[i].name = s ∧ ∀ (k : Nat) (hk : k < i), (l[k]'(by omega)).name ≠ s
  | [], s, i, h => by cases h
  | f :: l, s, i, h => by
    unfold findF at h
    split at h
    · rename_i hf
      cases h
      exact ⟨by simp, hf, fun k hk => by omega⟩
    · rename_i hf
      cases hl : findF l s with
      | none => rw [hl] at h; cases h
      | some j =>
        rw [hl] at h
        cases h
        obtain ⟨h1, h2, h3⟩ := findF_some hl
        refine ⟨by simp; omega, by simpa using h2, fun k hk => ?_⟩
        cases k with
        | zero => simpa using hf
        | succ k =>
          have := h3 k (Nat.lt_of_succ_lt_succ hk)
          simpa using this
theorem findF_none : ∀ {l : List FT} {s : ByteArray}, findF l s = none → ∀ f ∈ l, f.name ≠ s
  | [], s, _, f, hf => by cases hf
  | g :: l, s, h, f, hf => by
    unfold findF at h
    split at h
    · cases h
    · rename_i hg
      rw [Option.map_eq_none_iff] at h
      rcases List.mem_cons.1 hf with rfl | hf
      · exact hg
      · exact findF_none h f hf
theorem findF_of {l : List FT} {s : ByteArray} {i : Nat} (h : i < l.length) (hs : l[i].name = s) (hk : ∀ (k : Nat) (hki : k < i), (l[k]'(by omega)).name ≠ s) : findF l s = some i := by
  cases hf : findF l s with
  | none => exact absurd hs (findF_none hf _ (List.getElem_mem h))
  | some j =>
    obtain ⟨h1, h2, h3⟩ := findF_some hf
    rcases Nat.lt_trichotomy i j with h4 | rfl | h4
    · exact absurd hs (h3 i h4)
    · rfl
    · exact absurd h2 (hk j h4)
/-- No field ahead of number i has its name. -/
def firstB (l : List FT) (i : Nat) : Bool := match l[i]? with
  | none => true
  | some f => (l.take i).all fun g => decide (g.name ≠ f.name)
theorem firstB_iff {l : List FT} {i : Nat} (h : i < l.length) : firstB l i = true ↔ ∀ (k : Nat) (hk : k < i), (l[k]'(by omega)).name ≠ l[i].name := by
  unfold firstB
  rw [List.getElem?_eq_getElem h]
  simp only [List.all_eq_true, decide_eq_true_eq]
  constructor
  · intro ha k hk
    exact ha _ (List.mem_take_iff_getElem.2 ⟨k, by omega, rfl⟩)
  · intro ha g hg
    obtain ⟨k, hk, rfl⟩ := List.mem_take_iff_getElem.1 hg
    exact ha k (by omega)
theorem first_find {l : List FT} {i : Nat} (h : i < l.length) : firstB l i = decide (findF l l[i].name = some i) := by
  rw [Bool.eq_iff_iff, firstB_iff h, decide_eq_true_iff]
  exact ⟨fun hk => findF_of h rfl hk, fun hf => by obtain ⟨_, _, h3⟩ := findF_some hf; exact h3⟩

/-- A schema may be. -/
def okAt (l : List FT) (i : Nat) : Bool := match l[i]? with
  | none => true
  | some f => firstB l i && mayB f
theorem okAt_eq {l : List FT} {i : Nat} (h : i < l.length) : okAt l i = (firstB l i && mayB l[i]) := by unfold okAt; rw [List.getElem?_eq_getElem h]
def okTo (l : List FT) (k : Nat) : Bool := (List.range k).all (okAt l)
theorem okTo_zero (l : List FT) : okTo l 0 = true := rfl
theorem okTo_succ (l : List FT) (k : Nat) : okTo l (k + 1) = (okTo l k && okAt l k) := by simp [okTo, List.range_succ]
theorem okTo_no {l : List FT} {k n : Nat} (h : okAt l k = false) (hk : k < n) : okTo l n = false := by
  rw [okTo, List.all_eq_false]
  exact ⟨k, List.mem_range.2 hk, by simp [h]⟩
def checkS (l : List FT) : Bool := decide (1 ≤ l.length) && decide (l.length ≤ 16) && okTo l l.length
def errS (b : Bool) : Int := if b then 0 else 80

/-- The entries that are stored. -/
def keepB (l : List FT) (e : ET) : Bool := match findF l e.field with
  | none => false
  | some i => match l[i]? with
    | none => false
    | some f => f.stored
def storedF (l : List FT) (d : List ET) : List ET := d.filter (keepB l)
theorem storedF_snoc (l : List FT) {d : List ET} {k : Nat} (h : k < d.length) : storedF l (d.take (k + 1)) = storedF l (d.take k) ++ (if keepB l d[k] then [d[k]] else []) := by
  rw [storedF, List.take_succ_eq_append_getElem h, List.filter_append]
  congr 1
  rw [List.filter_cons, List.filter_nil]
end SchP
