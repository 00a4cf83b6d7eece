/- Data as trees, and how they lie in memory: a literal, or a row of elements of so many cells each; a row may bear marks behind its last element. Over any program. -/
import Derived.Test.YtinmiekbhoemjaaDoorWords
import Derived.Lib.Hide
import Derived.OpenShut
set_option linter.unusedVariables false
namespace Go.Proofs.YtinmiekbhoemjaaDoor.Tree
open Go.RowKit Go.WideShapes Go.ChangeShapes Words

/-- A cell's tree: a literal, or a row of n elements of s cells each, laid flat. -/
inductive T where
  | lit (v : Value)
  | arr (s n : Nat) (xs : List T)

/-- The cells from an address on. -/
def Cells (w : World) (ad : Addr) (l : List Value) : Prop := ∀ j u, l[j]? = some u → w.cell? (ad.add j) = some u

mutual
/-- The value stands for the tree: in memory w, over blocks of S; behind a row of elements of s cells lie the marks 'sent s'. -/
def T.At (sent : Nat → List (List Value)) (w : World) (S : Nat → Prop) : T → Value → Prop
  | .lit u, v => v = u
  | .arr s n xs, v => ∃ A cap vs, v = .slice A n cap ∧ n + (sent s).length ≤ cap ∧ cap ≤ maxLen ∧ xs.length = n * s ∧
      (0 < n + (sent s).length → ∃ ad, A = some ad ∧ S ad.block ∧ Cells w ad (vs ++ (sent s).flatten)) ∧ T.AtL sent w S xs vs
def T.AtL (sent : Nat → List (List Value)) (w : World) (S : Nat → Prop) : List T → List Value → Prop
  | [], [] => True
  | t :: ts, v :: vs => T.At sent w S t v ∧ T.AtL sent w S ts vs
  | [], _ :: _ => False
  | _ :: _, [] => False
end

/-- No marks. -/
def bare : Nat → List (List Value) := fun _ => []

section
variable {sent : Nat → List (List Value)} {w w' : World} {S S' : Nat → Prop}

mutual
theorem At.keep (hk : ∀ p : Addr, S p.block → w'.cell? p = w.cell? p) (hS : ∀ g, S g → S' g) : ∀ {t : T} {v : Value}, T.At sent w S t v → T.At sent w' S' t v
  | .lit u, v, h => by simpa only [T.At] using h
  | .arr s n xs, v, h => by
    simp only [T.At] at h ⊢
    obtain ⟨A, cap, vs, hv, hc, hm, hl, ha, hx⟩ := h
    refine ⟨A, cap, vs, hv, hc, hm, hl, fun hn => ?_, AtL.keep hk hS hx⟩
    obtain ⟨ad, e, hs, hcs⟩ := ha hn
    exact ⟨ad, e, hS _ hs, fun j u hu => (hk _ (by rw [block_of_add]; exact hs)).trans (hcs j u hu)⟩
theorem AtL.keep (hk : ∀ p : Addr, S p.block → w'.cell? p = w.cell? p) (hS : ∀ g, S g → S' g) : ∀ {ts : List T} {vs : List Value}, T.AtL sent w S ts vs → T.AtL sent w' S' ts vs
  | [], [], _ => by simp only [T.AtL]
  | t :: ts, v :: vs, h => by
    simp only [T.AtL] at h ⊢
    exact ⟨At.keep hk hS h.1, AtL.keep hk hS h.2⟩
  | [], _ :: _, h => by simp only [T.AtL] at h
  | _ :: _, [], h => by simp only [T.AtL] at h
end

theorem AtL.below {B : Nat} {ts : List T} {vs : List Value} (h : T.AtL sent w (fun g => g < B) ts vs) (hb : Below B w w') (hS : ∀ g, g < B → S' g) : T.AtL sent w' S' ts vs := AtL.keep (fun _ hp => hb.cell hp) hS h
theorem At.below {B : Nat} {t : T} {v : Value} (h : T.At sent w (fun g => g < B) t v) (hb : Below B w w') (hS : ∀ g, g < B → S' g) : T.At sent w' S' t v := At.keep (fun _ hp => hb.cell hp) hS h

theorem AtL.length : ∀ {ts : List T} {vs : List Value}, T.AtL sent w S ts vs → vs.length = ts.length
  | [], [], _ => rfl
  | t :: ts, v :: vs, h => by
    simp only [T.AtL] at h
    rw [List.length_cons, List.length_cons, AtL.length h.2]
  | [], _ :: _, h => by simp only [T.AtL] at h
  | _ :: _, [], h => by simp only [T.AtL] at h
theorem AtL.append : ∀ {ts us : List T} {vs ws : List Value}, T.AtL sent w S ts vs → T.AtL sent w S us ws → T.AtL sent w S (ts ++ us) (vs ++ ws)
  | [], us, [], ws, _, h => h
  | t :: ts, us, v :: vs, ws, h, h' => by
    simp only [T.AtL, List.cons_append] at h ⊢
    exact ⟨h.1, AtL.append h.2 h'⟩
  | [], _, _ :: _, _, h, _ => by simp only [T.AtL] at h
  | _ :: _, _, [], _, h, _ => by simp only [T.AtL] at h
theorem AtL.split : ∀ {ts us : List T} {vs : List Value}, T.AtL sent w S (ts ++ us) vs → T.AtL sent w S ts (vs.take ts.length) ∧ T.AtL sent w S us (vs.drop ts.length)
  | [], us, vs, h => by simpa [T.AtL] using h
  | t :: ts, us, v :: vs, h => by
    simp only [T.AtL, List.cons_append] at h
    obtain ⟨h1, h2⟩ := AtL.split h.2
    simp only [List.length_cons, List.take_succ_cons, List.drop_succ_cons, T.AtL]
    exact ⟨⟨h.1, h1⟩, h2⟩
  | t :: ts, us, [], h => by simp only [T.AtL, List.cons_append] at h
theorem AtL.nil_ {vs : List Value} (h : T.AtL sent w S [] vs) : vs = [] := by cases vs <;> simp_all [T.AtL]
theorem AtL.cons_ {t : T} {ts : List T} {vs : List Value} (h : T.AtL sent w S (t :: ts) vs) : ∃ v us, vs = v :: us ∧ T.At sent w S t v ∧ T.AtL sent w S ts us := by
  cases vs with
  | nil => simp only [T.AtL] at h
  | cons v us => simp only [T.AtL] at h; exact ⟨v, us, rfl, h⟩
/-- A row of literals is read as it stands. -/
theorem AtL.lits {α : Type} {f : α → Value} : ∀ {l : List α} {vs : List Value}, T.AtL sent w S (l.map fun z => .lit (f z)) vs → vs = l.map f
  | [], vs, h => AtL.nil_ h
  | z :: l, vs, h => by
    obtain ⟨v, us, rfl, hv, hus⟩ := AtL.cons_ h
    simp only [T.At] at hv
    rw [hv, AtL.lits hus]; rfl
theorem AtL.of_lits {α : Type} {f : α → Value} : ∀ {l : List α}, T.AtL sent w S (l.map fun z => .lit (f z)) (l.map f)
  | [] => by simp only [List.map_nil, T.AtL]
  | z :: l => by simp only [List.map_cons, T.AtL, T.At, true_and]; exact AtL.of_lits

mutual
/-- What bears marks is read without them. -/
theorem At.bare : ∀ {t : T} {v : Value}, T.At sent w S t v → T.At bare w S t v
  | .lit u, v, h => by simpa only [T.At] using h
  | .arr s n xs, v, h => by
    simp only [T.At] at h ⊢
    obtain ⟨A, cap, vs, hv, hc, hm, hl, ha, hx⟩ := h
    refine ⟨A, cap, vs, hv, by simp only [Tree.bare, List.length_nil]; omega, hm, hl, fun hn => ?_, AtL.bare hx⟩
    obtain ⟨ad, e, hs, hcs⟩ := ha (by simp only [Tree.bare, List.length_nil] at hn; omega)
    refine ⟨ad, e, hs, fun j u hu => hcs j u ?_⟩
    simp only [Tree.bare, List.flatten_nil, List.append_nil] at hu
    rw [List.getElem?_append_left (List.getElem?_eq_some_iff.1 hu).1]; exact hu
theorem AtL.bare : ∀ {ts : List T} {vs : List Value}, T.AtL sent w S ts vs → T.AtL bare w S ts vs
  | [], [], _ => by simp only [T.AtL]
  | t :: ts, v :: vs, h => by
    simp only [T.AtL] at h ⊢
    exact ⟨At.bare h.1, AtL.bare h.2⟩
  | [], _ :: _, h => by simp only [T.AtL] at h
  | _ :: _, [], h => by simp only [T.AtL] at h
end

/-- A row of structs: element i has the cells from i * k on. -/
theorem flatMap_len {X : Type} (f : X → List T) {k : Nat} (hf : ∀ x, (f x).length = k) : ∀ xs : List X, (xs.flatMap f).length = xs.length * k
  | [] => by simp
  | x :: xs => by rw [List.flatMap_cons, List.length_append, hf, flatMap_len f hf xs, List.length_cons, Nat.succ_mul]; omega
theorem AtL.elem {X : Type} {f : X → List T} {k : Nat} (hf : ∀ x, (f x).length = k) : ∀ {xs : List X} {vs : List Value}, T.AtL sent w S (xs.flatMap f) vs → ∀ (i : Nat) (h : i < xs.length),
    ∃ us, us.length = k ∧ T.AtL sent w S (f xs[i]) us ∧ ∀ j, j < k → vs[i * k + j]? = us[j]?
  | [], vs, _, i, h => absurd h (by simp)
  | x :: xs, vs, ht, 0, h => by
    rw [List.flatMap_cons] at ht
    obtain ⟨h1, h2⟩ := AtL.split ht
    refine ⟨_, by rw [AtL.length h1, hf], h1, fun j hj => ?_⟩
    rw [Nat.zero_mul, Nat.zero_add, List.getElem?_take_of_lt (by rw [hf]; exact hj)]
  | x :: xs, vs, ht, i + 1, h => by
    rw [List.flatMap_cons] at ht
    obtain ⟨h1, h2⟩ := AtL.split ht
    obtain ⟨us, hl, hu, hj⟩ := AtL.elem hf h2 i (by simpa using h)
    refine ⟨us, hl, hu, fun j hjk => ?_⟩
    rw [← hj j hjk, List.getElem?_drop, hf]
    congr 1
    rw [Nat.succ_mul]; omega
theorem Cells.left {ad : Addr} {l m : List Value} (h : Cells w ad (l ++ m)) : Cells w ad l := fun j u hu => h j u (by rw [List.getElem?_append_left (List.getElem?_eq_some_iff.1 hu).1]; exact hu)
theorem Cells.right {ad : Addr} {l m : List Value} (h : Cells w ad (l ++ m)) : Cells w (ad.add l.length) m := fun j u hu => by
  rw [add_of_add]
  refine h _ u ?_
  rw [List.getElem?_append_right (by omega), Nat.add_sub_cancel_left]; exact hu
theorem Cells.elem {ad : Addr} {vs us : List Value} {i k : Nat} (h : Cells w ad vs) (hj : ∀ j, j < k → vs[i * k + j]? = us[j]?) (hl : us.length = k) : Cells w (ad.add (i * k)) us := fun j u hu => by
  rw [add_of_add]
  exact h _ u ((hj j (by have := (List.getElem?_eq_some_iff.1 hu).1; omega)).trans hu)
theorem Cells.keep {ad : Addr} {l : List Value} (h : Cells w ad l) (hk : ∀ p : Addr, p.block = ad.block → w'.cell? p = w.cell? p) : Cells w' ad l := fun j u hu => (hk _ (by rw [block_of_add])).trans (h j u hu)
theorem Cells.zero {ad : Addr} {u : Value} {l : List Value} (h : Cells w ad (u :: l)) : w.cell? ad = some u := by have := h 0 u rfl; simpa [Addr.add] using this
theorem Cells.at_ {ad : Addr} {l : List Value} (h : Cells w ad l) (j : Nat) (u : Value) (hj : l[j]? = some u) (h0 : 0 < j) : w.cell? ⟨ad.block, ad.off + j, none⟩ = some u := by
  have := h j u hj
  unfold Addr.add at this
  rwa [if_neg (by omega)] at this

/-- The row of a tree, in the words of rows that are read. -/
theorem At.reads {B s n : Nat} {xs : List T} {v : Value} (h : T.At sent w (fun g => g < B) (.arr s n xs) v) :
    ∃ A cap vs, v = .slice A n cap ∧ n ≤ cap ∧ cap ≤ maxLen ∧ Reads w B s A n vs ∧ T.AtL sent w (fun g => g < B) xs vs := by
  simp only [T.At] at h
  obtain ⟨A, cap, vs, hv, hc, hm, hl, ha, hx⟩ := h
  refine ⟨A, cap, vs, hv, by omega, hm, ⟨by rw [AtL.length hx, hl], fun hn => ?_⟩, hx⟩
  obtain ⟨ad, e, hs, hcs⟩ := ha (by omega)
  exact ⟨ad, e, hs, hcs.left⟩
end

/-! ### Rows of flat structs -/
section
variable {X α : Type} {f : X → List α} {k : Nat}
end
end Go.Proofs.YtinmiekbhoemjaaDoor.Tree
