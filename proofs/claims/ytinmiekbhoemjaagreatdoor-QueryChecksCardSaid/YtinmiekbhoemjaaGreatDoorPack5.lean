/- Schemas, entries and cells as plain Lean data; which schemas may be, which entries are stored. Which requests may be asked, in plain Lean. Data as trees, and how they lie in memory: a literal, or a row of elements of so many cells each; a row may bear marks behind its last element. Over any program. -/
import Derived.Test.YtinmiekbhoemjaaGreatDoorAnaRunP
import Derived.Test.YtinmiekbhoemjaaGreatDoorPack1
import Derived.Lib.Hide
import Derived.OpenShut
section
namespace SchP
open AnaP

/-- A field; an entry; a cell. -/
structure FT where
  name : ByteArray
  kind : Int
  chain : List Int
  scale : Int
  dims : Int
  many : Bool
  stored : Bool
structure ET where
  field : ByteArray
  text : ByteArray
  nums : List Int
structure CT where
  field : Int
  text : ByteArray
  nums : List Int

/-- What a field may be, whatever the others are. -/
def kindB (f : FT) : Bool := if f.kind = 1 then checkB f.chain else if f.kind = 2 ∨ f.kind = 3 then true else if f.kind = 4 then decide (0 ≤ f.scale ∧ f.scale ≤ 9) else if f.kind = 5 then decide (1 ≤ f.dims ∧ f.dims ≤ 4) else false
def mayB (f : FT) : Bool := nameB f.name && (decide (f.kind = 1) || decide (f.chain.length = 0)) && (decide (f.kind = 4) || decide (f.scale = 0)) && (decide (f.kind = 5) || decide (f.dims = 0)) && kindB f

/-- A name's number. -/
def findF : List FT → ByteArray → Option Nat
  | [], _ => none
  | f :: l, s => if f.name = s then some 0 else (findF l s).map (· + 1)
def findZ (l : List FT) (s : ByteArray) : Int := match findF l s with
  | some i => i
  | none => -1
theorem findF_some : ∀ {l : List FT} {s : ByteArray} {i : Nat}, findF l s = some i → ∃ h : i < l.length, l[i].name = s ∧ ∀ (k : Nat) (hk : k < i), (l[k]'(by omega)).name ≠ s
  | [], s, i, h => by cases h
  | f :: l, s, i, h => by
    unfold findF at h
    split at h
    · rename_i hf
      cases h
      exact ⟨by simp, hf, fun k hk => by omega⟩
    · rename_i hf
      cases hl : findF l s with
      | none => rw [hl] at h; cases h
      | some j =>
        rw [hl] at h
        cases h
        obtain ⟨h1, h2, h3⟩ := findF_some hl
        refine ⟨by simp; omega, by simpa using h2, fun k hk => ?_⟩
        cases k with
        | zero => simpa using hf
        | succ k =>
          have := h3 k (Nat.lt_of_succ_lt_succ hk)
          simpa using this
theorem findF_none : ∀ {l : List FT} {s : ByteArray}, findF l s = none → ∀ f ∈ l, f.name ≠ s
  | [], s, _, f, hf => by cases hf
  | g :: l, s, h, f, hf => by
    unfold findF at h
    split at h
    · cases h
    · rename_i hg
      rw [Option.map_eq_none_iff] at h
      rcases List.mem_cons.1 hf with rfl | hf
      · exact hg
      · exact findF_none h f hf
theorem findF_of {l : List FT} {s : ByteArray} {i : Nat} (h : i < l.length) (hs : l[i].name = s) (hk : ∀ (k : Nat) (hki : k < i), (l[k]'(by omega)).name ≠ s) : findF l s = some i := by
  cases hf : findF l s with
  | none => exact absurd hs (findF_none hf _ (List.getElem_mem h))
  | some j =>
    obtain ⟨h1, h2, h3⟩ := findF_some hf
    rcases Nat.lt_trichotomy i j with h4 | rfl | h4
    · exact absurd hs (h3 i h4)
    · rfl
    · exact absurd h2 (hk j h4)
/-- No field ahead of number i has its name. -/
def firstB (l : List FT) (i : Nat) : Bool := match l[i]? with
  | none => true
  | some f => (l.take i).all fun g => decide (g.name ≠ f.name)
theorem firstB_iff {l : List FT} {i : Nat} (h : i < l.length) : firstB l i = true ↔ ∀ (k : Nat) (hk : k < i), (l[k]'(by omega)).name ≠ l[i].name := by
  unfold firstB
  rw [List.getElem?_eq_getElem h]
  simp only [List.all_eq_true, decide_eq_true_eq]
  constructor
  · intro ha k hk
    exact ha _ (List.mem_take_iff_getElem.2 ⟨k, by omega, rfl⟩)
  · intro ha g hg
    obtain ⟨k, hk, rfl⟩ := List.mem_take_iff_getElem.1 hg
    exact ha k (by omega)
theorem first_find {l : List FT} {i : Nat} (h : i < l.length) : firstB l i = decide (findF l l[i].name = some i) := by
  rw [Bool.eq_iff_iff, firstB_iff h, decide_eq_true_iff]
  exact ⟨fun hk => findF_of h rfl hk, fun hf => by obtain ⟨_, _, h3⟩ := findF_some hf; exact h3⟩

/-- A schema may be. -/
def okAt (l : List FT) (i : Nat) : Bool := match l[i]? with
  | none => true
  | some f => firstB l i && mayB f
theorem okAt_eq {l : List FT} {i : Nat} (h : i < l.length) : okAt l i = (firstB l i && mayB l[i]) := by unfold okAt; rw [List.getElem?_eq_getElem h]
def okTo (l : List FT) (k : Nat) : Bool := (List.range k).all (okAt l)
theorem okTo_zero (l : List FT) : okTo l 0 = true := rfl
theorem okTo_succ (l : List FT) (k : Nat) : okTo l (k + 1) = (okTo l k && okAt l k) := by simp [okTo, List.range_succ]
theorem okTo_no {l : List FT} {k n : Nat} (h : okAt l k = false) (hk : k < n) : okTo l n = false := by
  rw [okTo, List.all_eq_false]
  exact ⟨k, List.mem_range.2 hk, by simp [h]⟩
def checkS (l : List FT) : Bool := decide (1 ≤ l.length) && decide (l.length ≤ 16) && okTo l l.length
def errS (b : Bool) : Int := if b then 0 else 80

end SchP
end
section
namespace QckP
open SchP QryP AnaP

/-- A sort key; a key of a cursor; an aggregation; a request. -/
structure SortT where
  field : ByteArray
  down : Bool
  first : Bool
structure KeyT where
  kind : Int
  num : Int
  text : ByteArray
inductive AggT where
  | mk (name : ByteArray) (kind : Int) (field : ByteArray) (size : Int) (bounds : List Int) (step : Int) (kids : List AggT)
structure ReqT where
  query : QT
  sort : List SortT
  after : List (List KeyT × Int)
  size : Int
  collapse : ByteArray
  aggs : List AggT
  fields : List ByteArray
/-- A field by its name. -/
def fieldF (l : List FT) (s : ByteArray) : Option FT := (findF l s).bind fun i => l[i]?
def numF (f : FT) : Bool := decide (f.kind = 3) || decide (f.kind = 4)
/-- May a part name a field, and its text? -/
def mayP (q : QT) (f : FT) : Bool :=
  if kd q = 3 ∨ kd q = 5 ∨ kd q = 6 then decide (f.kind = 1) || decide (f.kind = 2)
  else if kd q = 4 then decide (f.kind = 1)
  else if kd q = 7 then (numF f && decide ((lo q).length = 1)) || (decide (f.kind = 5) && decide (((lo q).length : Int) = f.dims))
  else if kd q = 10 then numF f else false
def mayE (q : QT) (f : FT) : Int := if mayP q f then (if f.kind = 1 ∧ (kd q = 3 ∨ kd q = 4) then (if (runF f.chain (tx q)).2 = 0 then 0 else 181) else 0) else 82
def askF (l : List FT) (q : QT) : Int := if (fd q).size = 0 then 0 else match fieldF l (fd q) with
  | none => 81
  | some f => mayE q f
/-- The first of two faults. -/
def orE (a b : Int) : Int := if a = 0 then b else a
/-- A part's own faults. -/
def partO (l : List FT) (q : QT) (under : Int) (above : Nat) : Int :=
  if 6 ≤ above then 182 else if 32 < (kids q).length then 84 else if ownB q under then askF l q else 181
mutual
def partF (l : List FT) (under : Int) (above : Nat) : QT → Int
  | .mk k o f t u lo hi b p ks => orE (partO l (.mk k o f t u lo hi b p ks) under above) (partL l k (above + 1) ks)
def partL (l : List FT) (under : Int) (above : Nat) : List QT → Int
  | [] => 0
  | q :: qs => orE (partF l under above q) (partL l under above qs)
end
/-- The first fault of so many. -/
def firstE (f : Nat → Int) (i : Nat) : Nat → Int
  | 0 => 0
  | n + 1 => orE (f i) (firstE f (i + 1) n)
def sortO (l : List FT) (k : SortT) (before : List SortT) : Int :=
  orE (if k.field.size = 0 ∨ k.field = ⟨#[35]⟩ then 0 else match fieldF l k.field with
    | none => 81
    | some f => if f.kind = 1 ∨ f.kind = 5 then 183 else 0) (if before.any fun b => decide (b.field = k.field) then 183 else 0)
def sortF (l : List FT) (ks : List SortT) : Int := if 4 < ks.length then 183 else firstE (fun i => match ks[i]? with
  | none => 0
  | some k => sortO l k (ks.take i)) 0 ks.length
def collF (l : List FT) (s : ByteArray) : Int := if s.size = 0 then 0 else match fieldF l s with
  | none => 81
  | some f => if f.kind = 2 then 0 else 82
def rightT (k : KeyT) : Bool := (decide (k.kind = 0) && decide (k.num = 0) && decide (k.text.size = 0)) || (decide (k.kind = 1) && decide (k.text.size = 0)) || (decide (k.kind = 2) && decide (k.num = 0))
def pageF (size : Int) (n : Nat) (after : List (List KeyT × Int)) : Int :=
  if size < 0 ∨ 1000 < size ∨ 1 < after.length then 185 else match after with
  | [] => 0
  | c :: _ => if c.1.length = max 1 n ∧ c.1.all rightT then 0 else 185
def upB : List Int → Bool
  | a :: b :: l => decide (a < b) && upB (b :: l)
  | _ => true
def name_ : AggT → ByteArray | .mk n _ _ _ _ _ _ => n
def kind_ : AggT → Int | .mk _ k _ _ _ _ _ => k
def field_ : AggT → ByteArray | .mk _ _ f _ _ _ _ => f
def size_ : AggT → Int | .mk _ _ _ s _ _ _ => s
def bounds_ : AggT → List Int | .mk _ _ _ _ b _ _ => b
def step_ : AggT → Int | .mk _ _ _ _ _ s _ => s
def kids_ : AggT → List AggT | .mk _ _ _ _ _ _ k => k
/-- An aggregation's own faults. -/
def aggHead (g : AggT) (before : List AggT) : Bool := nameB (name_ g) && !(before.any fun b => decide (name_ b = name_ g)) && decide (1 ≤ kind_ g) && decide (kind_ g ≤ 8) && (decide (kind_ g ≠ 4) || decide ((field_ g).size = 0))
def aggField (l : List FT) (g : AggT) : Int := if kind_ g = 4 then 0 else match fieldF l (field_ g) with
  | none => 81
  | some f => if (if kind_ g = 1 then decide (f.kind = 2) else if kind_ g = 8 then numF f || decide (f.kind = 2) else numF f) then 0 else 82
def aggTail (g : AggT) : Bool :=
  (if kind_ g = 1 then decide (1 ≤ size_ g) && decide (size_ g ≤ 1000) else decide (size_ g = 0)) &&
  (if kind_ g = 2 then decide (2 ≤ (bounds_ g).length) && decide ((bounds_ g).length ≤ 1000) && upB (bounds_ g) else decide ((bounds_ g).length = 0)) &&
  (if kind_ g = 3 then decide (1 ≤ step_ g) else decide (step_ g = 0)) && (decide (kind_ g ≤ 3) || decide ((kids_ g).length = 0))
def aggO (l : List FT) (g : AggT) (before : List AggT) : Int := if aggHead g before then orE (aggField l g) (if aggTail g then 0 else 184) else 184
mutual
def aggF (l : List FT) (above : Nat) (before : List AggT) : AggT → Int
  | .mk n k f s b t ks => if 8 ≤ before.length ∨ 3 ≤ above then 184 else orE (aggO l (.mk n k f s b t ks) before) (aggsF l (above + 1) [] ks)
def aggsF (l : List FT) (above : Nat) (before : List AggT) : List AggT → Int
  | [] => 0
  | g :: gs => orE (aggF l above before g) (aggsF l above (before ++ [g]) gs)
end
def fieldsF (l : List FT) : List ByteArray → Int
  | [] => 0
  | s :: ss => orE (match fieldF l s with
    | none => 81
    | some f => if f.stored then 0 else 82) (fieldsF l ss)
/-- The first fault of a request, or none. -/
def checkR (l : List FT) (r : ReqT) : Int := orE (errS (checkS l)) (orE (partF l 0 0 r.query) (orE (sortF l r.sort) (orE (collF l r.collapse) (orE (pageF r.size r.sort.length r.after) (orE (aggsF l 0 [] r.aggs) (fieldsF l r.fields))))))
end QckP
end
section
set_option linter.unusedVariables false
namespace Go.Proofs.YtinmiekbhoemjaaGreatDoor.Tree
open Go.RowKit Go.WideShapes Go.ChangeShapes Words

/-- A cell's tree: a literal, or a row of n elements of s cells each, laid flat. -/
inductive T where
  | lit (v : Value)
  | arr (s n : Nat) (xs : List T)

/-- The cells from an address on. -/
def Cells (w : World) (ad : Addr) (l : List Value) : Prop := ∀ j u, l[j]? = some u → w.cell? (ad.add j) = some u

mutual
/-- The value stands for the tree: in memory w, over blocks of S; behind a row of elements of s cells lie the marks 'sent s'. -/
def T.At (sent : Nat → List (List Value)) (w : World) (S : Nat → Prop) : T → Value → Prop
  | .lit u, v => v = u
  | .arr s n xs, v => ∃ A cap vs, v = .slice A n cap ∧ n + (sent s).length ≤ cap ∧ cap ≤ maxLen ∧ xs.length = n * s ∧
      (0 < n + (sent s).length → ∃ ad, A = some ad ∧ S ad.block ∧ Cells w ad (vs ++ (sent s).flatten)) ∧ T.AtL sent w S xs vs
def T.AtL (sent : Nat → List (List Value)) (w : World) (S : Nat → Prop) : List T → List Value → Prop
  | [], [] => True
  | t :: ts, v :: vs => T.At sent w S t v ∧ T.AtL sent w S ts vs
  | [], _ :: _ => False
  | _ :: _, [] => False
end

/-- No marks. -/
def bare : Nat → List (List Value) := fun _ => []

section
variable {sent : Nat → List (List Value)} {w w' : World} {S S' : Nat → Prop}

mutual
theorem At.keep (hk : ∀ p : Addr, S p.block → w'.cell? p = w.cell? p) (hS : ∀ g, S g → S' g) : ∀ {t : T} {v : Value}, T.At sent w S t v → T.At sent w' S' t v
  | .lit u, v, h => by simpa only [T.At] using h
  | .arr s n xs, v, h => by
    simp only [T.At] at h ⊢
    obtain ⟨A, cap, vs, hv, hc, hm, hl, ha, hx⟩ := h
    refine ⟨A, cap, vs, hv, hc, hm, hl, fun hn => ?_, AtL.keep hk hS hx⟩
    obtain ⟨ad, e, hs, hcs⟩ := ha hn
    exact ⟨ad, e, hS _ hs, fun j u hu => (hk _ (by rw [block_of_add]; exact hs)).trans (hcs j u hu)⟩
theorem AtL.keep (hk : ∀ p : Addr, S p.block → w'.cell? p = w.cell? p) (hS : ∀ g, S g → S' g) : ∀ {ts : List T} {vs : List Value}, T.AtL sent w S ts vs → T.AtL sent w' S' ts vs
  | [], [], _ => by simp only [T.AtL]
  | t :: ts, v :: vs, h => by
    simp only [T.AtL] at h ⊢
    exact ⟨At.keep hk hS h.1, AtL.keep hk hS h.2⟩
  | [], _ :: _, h => by simp only [T.AtL] at h
  | _ :: _, [], h => by simp only [T.AtL] at h
end

theorem AtL.below {B : Nat} {ts : List T} {vs : List Value} (h : T.AtL sent w (fun g => g < B) ts vs) (hb : Below B w w') (hS : ∀ g, g < B → S' g) : T.AtL sent w' S' ts vs := AtL.keep (fun _ hp => hb.cell hp) hS h
theorem At.below {B : Nat} {t : T} {v : Value} (h : T.At sent w (fun g => g < B) t v) (hb : Below B w w') (hS : ∀ g, g < B → S' g) : T.At sent w' S' t v := At.keep (fun _ hp => hb.cell hp) hS h

theorem AtL.length : ∀ {ts : List T} {vs : List Value}, T.AtL sent w S ts vs → vs.length = ts.length
  | [], [], _ => rfl
  | t :: ts, v :: vs, h => by
    simp only [T.AtL] at h
    rw [List.length_cons, List.length_cons, AtL.length h.2]
  | [], _ :: _, h => by simp only [T.AtL] at h
  | _ :: _, [], h => by simp only [T.AtL] at h
theorem AtL.append : ∀ {ts us : List T} {vs ws : List Value}, T.AtL sent w S ts vs → T.AtL sent w S us ws → T.AtL sent w S (ts ++ us) (vs ++ ws)
  | [], us, [], ws, _, h => h
  | t :: ts, us, v :: vs, ws, h, h' => by
    simp only [T.AtL, List.cons_append] at h ⊢
    exact ⟨h.1, AtL.append h.2 h'⟩
  | [], _, _ :: _, _, h, _ => by simp only [T.AtL] at h
  | _ :: _, _, [], _, h, _ => by simp only [T.AtL] at h
theorem AtL.split : ∀ {ts us : List T} {vs : List Value}, T.AtL sent w S (ts ++ us) vs → T.AtL sent w S ts (vs.take ts.length) ∧ T.AtL sent w S us (vs.drop ts.length)
  | [], us, vs, h => by simpa [T.AtL] using h
  | t :: ts, us, v :: vs, h => by
    simp only [T.AtL, List.cons_append] at h
    obtain ⟨h1, h2⟩ := AtL.split h.2
    simp only [List.length_cons, List.take_succ_cons, List.drop_succ_cons, T.AtL]
    exact ⟨⟨h.1, h1⟩, h2⟩
  | t :: ts, us, [], h => by simp only [T.AtL, List.cons_append] at h
theorem AtL.nil_ {vs : List Value} (h : T.AtL sent w S [] vs) : vs = [] := by cases vs <;> simp_all [T.AtL]
theorem AtL.cons_ {t : T} {ts : List T} {vs : List Value} (h : T.AtL sent w S (t :: ts) vs) : ∃ v us, vs = v :: us ∧ T.At sent w S t v ∧ T.AtL sent w S ts us := by
  cases vs with
  | nil => simp only [T.AtL] at h
  | cons v us => simp only [T.AtL] at h; exact ⟨v, us, rfl, h⟩
/-- A row of literals is read as it stands. -/
theorem AtL.lits {α : Type} {f : α → Value} : ∀ {l : List α} {vs : List Value}, T.AtL sent w S (l.map fun z => .lit (f z)) vs → vs = l.map f
  | [], vs, h => AtL.nil_ h
  | z :: l, vs, h => by
    obtain ⟨v, us, rfl, hv, hus⟩ := AtL.cons_ h
    simp only [T.At] at hv
    rw [hv, AtL.lits hus]; rfl
theorem AtL.of_lits {α : Type} {f : α → Value} : ∀ {l : List α}, T.AtL sent w S (l.map fun z => .lit (f z)) (l.map f)
  | [] => by simp only [List.map_nil, T.AtL]
  | z :: l => by simp only [List.map_cons, T.AtL, T.At, true_and]; exact AtL.of_lits

mutual
/-- What bears marks is read without them. -/
theorem At.bare : ∀ {t : T} {v : Value}, T.At sent w S t v → T.At bare w S t v
  | .lit u, v, h => by simpa only [T.At] using h
  | .arr s n xs, v, h => by
    simp only [T.At] at h ⊢
    obtain ⟨A, cap, vs, hv, hc, hm, hl, ha, hx⟩ := h
    refine ⟨A, cap, vs, hv, by simp only [Tree.bare, List.length_nil]; omega, hm, hl, fun hn => ?_, AtL.bare hx⟩
    obtain ⟨ad, e, hs, hcs⟩ := ha (by simp only [Tree.bare, List.length_nil] at hn; omega)
    refine ⟨ad, e, hs, fun j u hu => hcs j u ?_⟩
    simp only [Tree.bare, List.flatten_nil, List.append_nil] at hu
    rw [List.getElem?_append_left (List.getElem?_eq_some_iff.1 hu).1]; exact hu
theorem AtL.bare : ∀ {ts : List T} {vs : List Value}, T.AtL sent w S ts vs → T.AtL bare w S ts vs
  | [], [], _ => by simp only [T.AtL]
  | t :: ts, v :: vs, h => by
    simp only [T.AtL] at h ⊢
    exact ⟨At.bare h.1, AtL.bare h.2⟩
  | [], _ :: _, h => by simp only [T.AtL] at h
  | _ :: _, [], h => by simp only [T.AtL] at h
end

/-- A row of structs: element i has the cells from i * k on. -/
theorem flatMap_len {X : Type} (f : X → List T) {k : Nat} (hf : ∀ x, (f x).length = k) : ∀ xs : List X, (xs.flatMap f).length = xs.length * k
  | [] => by simp
  | x :: xs => by rw [List.flatMap_cons, List.length_append, hf, flatMap_len f hf xs, List.length_cons, Nat.succ_mul]; omega
theorem AtL.elem {X : Type} {f : X → List T} {k : Nat} (hf : ∀ x, (f x).length = k) : ∀ {xs : List X} {vs : List Value}, T.AtL sent w S (xs.flatMap f) vs → ∀ (i : Nat) (h : i < xs.length),
    ∃ us, us.length = k ∧ T.AtL sent w S (f xs[i]) us ∧ ∀ j, j < k → vs[i * k + j]? = us[j]?
  | [], vs, _, i, h => absurd h (by simp)
  | x :: xs, vs, ht, 0, h => by
    rw [List.flatMap_cons] at ht
    obtain ⟨h1, h2⟩ := AtL.split ht
    refine ⟨_, by rw [AtL.length h1, hf], h1, fun j hj => ?_⟩
    rw [Nat.zero_mul, Nat.zero_add, List.getElem?_take_of_lt (by rw [hf]; exact hj)]
  | x :: xs, vs, ht, i + 1, h => by
    rw [List.flatMap_cons] at ht
    obtain ⟨h1, h2⟩ := AtL.split ht
    obtain ⟨us, hl, hu, hj⟩ := AtL.elem hf h2 i (by simpa using h)
    refine ⟨us, hl, hu, fun j hjk => ?_⟩
    rw [← hj j hjk, List.getElem?_drop, hf]
    congr 1
    rw [Nat.succ_mul]; omega
theorem Cells.left {ad : Addr} {l m : List Value} (h : Cells w ad (l ++ m)) : Cells w ad l := fun j u hu => h j u (by rw [List.getElem?_append_left (List.getElem?_eq_some_iff.1 hu).1]; exact hu)
theorem Cells.right {ad : Addr} {l m : List Value} (h : Cells w ad (l ++ m)) : Cells w (ad.add l.length) m := fun j u hu => by
  rw [add_of_add]
  refine h _ u ?_
  rw [List.getElem?_append_right (by omega), Nat.add_sub_cancel_left]; exact hu
theorem Cells.elem {ad : Addr} {vs us : List Value} {i k : Nat} (h : Cells w ad vs) (hj : ∀ j, j < k → vs[i * k + j]? = us[j]?) (hl : us.length = k) : Cells w (ad.add (i * k)) us := fun j u hu => by
  rw [add_of_add]
  exact h _ u ((hj j (by have := (List.getElem?_eq_some_iff.1 hu).1; omega)).trans hu)
theorem Cells.keep {ad : Addr} {l : List Value} (h : Cells w ad l) (hk : ∀ p : Addr, p.block = ad.block → w'.cell? p = w.cell? p) : Cells w' ad l := fun j u hu => (hk _ (by rw [block_of_add])).trans (h j u hu)
theorem Cells.zero {ad : Addr} {u : Value} {l : List Value} (h : Cells w ad (u :: l)) : w.cell? ad = some u := by have := h 0 u rfl; simpa [Addr.add] using this
theorem Cells.at_ {ad : Addr} {l : List Value} (h : Cells w ad l) (j : Nat) (u : Value) (hj : l[j]? = some u) (h0 : 0 < j) : w.cell? ⟨ad.block, ad.off + j, none⟩ = some u := by
  have := h j u hj
  unfold Addr.add at this
  rwa [if_neg (by omega)] at this

/-- The row of a tree, in the words of rows that are read. -/
theorem At.reads {B s n : Nat} {xs : List T} {v : Value} (h : T.At sent w (fun g => g < B) (.arr s n xs) v) :
    ∃ A cap vs, v = .slice A n cap ∧ n ≤ cap ∧ cap ≤ maxLen ∧ Reads w B s A n vs ∧ T.AtL sent w (fun g => g < B) xs vs := by
  simp only [T.At] at h
  obtain ⟨A, cap, vs, hv, hc, hm, hl, ha, hx⟩ := h
  refine ⟨A, cap, vs, hv, by omega, hm, ⟨by rw [AtL.length hx, hl], fun hn => ?_⟩, hx⟩
  obtain ⟨ad, e, hs, hcs⟩ := ha (by omega)
  exact ⟨ad, e, hs, hcs.left⟩
end

/-! ### Rows of flat structs -/
section
variable {X α : Type} {f : X → List α} {k : Nat}
theorem flat_len (hf : ∀ x, (f x).length = k) : ∀ xs : List X, (xs.flatMap f).length = xs.length * k
  | [] => by simp
  | x :: xs => by rw [List.flatMap_cons, List.length_append, hf, flat_len hf xs, List.length_cons, Nat.succ_mul]; omega
theorem flat_get (hf : ∀ x, (f x).length = k) : ∀ (xs : List X) (i : Nat) (h : i < xs.length) (j : Nat), j < k → (xs.flatMap f)[i * k + j]? = (f xs[i])[j]?
  | [], _, h, _, _ => absurd h (by simp)
  | x :: xs, 0, h, j, hj => by
    rw [List.flatMap_cons, Nat.zero_mul, Nat.zero_add, List.getElem?_append_left (by rw [hf]; exact hj)]; rfl
  | x :: xs, i + 1, h, j, hj => by
    rw [List.flatMap_cons, List.getElem?_append_right (by rw [hf, Nat.succ_mul]; omega), hf, show (i + 1) * k + j - k = i * k + j by rw [Nat.succ_mul]; omega]
    exact flat_get hf xs i (by simpa using h) j hj
/-- Element i of a row of flat structs. -/
theorem reads_elem {f : X → List Value} (hf : ∀ x, (f x).length = k) {w : World} {B n : Nat} {A : Option Addr} {xs : List X} (h : Reads w B k A n (xs.flatMap f)) (hn : n = xs.length) {i : Nat} (hi : i < xs.length) :
    ∃ ad, A = some ad ∧ ad.block < B ∧ Cells w (ad.add (i * k)) (f xs[i]) := by
  obtain ⟨ad, ha, hb, hc⟩ := h.2 (by omega)
  refine ⟨ad, ha, hb, fun j u hu => ?_⟩
  have hj : j < k := by have := (List.getElem?_eq_some_iff.1 hu).1; rw [hf] at this; exact this
  rw [add_of_add]
  exact hc _ u ((flat_get hf xs i hi j hj).trans hu)
end
end Go.Proofs.YtinmiekbhoemjaaGreatDoor.Tree
end
