/- A document's cells, in plain Lean: which documents are taken, entry by entry and all together; their order makes no difference, nor does one that is left away; cells are told as entries again. The decimals and the tokens of a text come as functions. -/
import Derived.Test.YtfckomjbgopmaaaGreatDoorPack9
namespace SchP
open AnaP

section
variable (dec : FT → ByteArray → Option Int) (run : FT → ByteArray → Option Nat)

/-- How many numbers an entry of a field has. -/
def wantN (f : FT) : Int := if f.kind = 3 then 1 else if f.kind = 5 then f.dims else 0
def kindOk (f : FT) (text : ByteArray) (nums : List Int) : Bool := decide ((nums.length : Int) = wantN f) && (decide (wantN f ≤ 0) || decide (text.size = 0))
/-- An entry's value in a cell, and its tokens. -/
def valueF (f : FT) (k : Nat) (e : ET) : Option (CT × Nat) :=
  if f.kind = 1 then (run f e.text).map fun n => (⟨k, e.text, []⟩, n)
  else if f.kind = 2 then (if e.text.size ≤ 256 then some (⟨k, e.text, []⟩, 0) else none)
  else if f.kind = 4 then (dec f e.text).map fun n => (⟨k, ⟨#[]⟩, [n]⟩, 0)
  else some (⟨k, ⟨#[]⟩, e.nums⟩, 0)
def ofK (k : Nat) (out : List (CT × Nat)) : List (CT × Nat) := out.filter fun c => decide (c.1.field = k)
def sumK (k : Nat) (out : List (CT × Nat)) : Nat := ((ofK k out).map (·.2)).sum
/-- The next cell, or why there is none. -/
def stepF (l : List FT) (out : List (CT × Nat)) (e : ET) : Except Int (CT × Nat) := match findF l e.field with
  | none => .error 81
  | some k => match l[k]? with
    | none => .error 81
    | some f =>
      if kindOk f e.text e.nums = false then .error 82
      else if f.many = false ∧ 0 < (ofK k out).length then .error 84
      else match valueF dec run f k e with
        | none => .error 83
        | some c => if f.kind = 1 ∧ 4096 < sumK k out + c.2 then .error 83 else .ok c
def goF (l : List FT) : List (CT × Nat) → List ET → Except Int (List (CT × Nat))
  | out, [] => .ok out
  | out, e :: d => match stepF dec run l out e with
    | .error n => .error n
    | .ok c => goF l (out ++ [c]) d
def cellsF (l : List FT) (d : List ET) : Except Int (List CT) :=
  if checkS l = false then .error 80 else if 64 < d.length then .error 84 else (goF dec run l [] d).map fun o => o.map (·.1)

/-- An entry by itself. -/
def oneF (l : List FT) (e : ET) : Option (CT × Nat) := match findF l e.field with
  | none => none
  | some k => match l[k]? with
    | none => none
    | some f => if kindOk f e.text e.nums = false then none else valueF dec run f k e
/-- Cells that may be together. -/
def Fits (l : List FT) (out : List (CT × Nat)) : Prop := ∀ (k : Nat) (f : FT), l[k]? = some f → (f.many = false → (ofK k out).length ≤ 1) ∧ (f.kind = 1 → sumK k out ≤ 4096)

theorem ofK_append (k : Nat) (a b : List (CT × Nat)) : ofK k (a ++ b) = ofK k a ++ ofK k b := List.filter_append ..
theorem sumK_append (k : Nat) (a b : List (CT × Nat)) : sumK k (a ++ b) = sumK k a + sumK k b := by simp [sumK, ofK_append]
theorem ofK_perm {k : Nat} {a b : List (CT × Nat)} (h : a.Perm b) : (ofK k a).Perm (ofK k b) := h.filter _
theorem sumK_perm {k : Nat} {a b : List (CT × Nat)} (h : a.Perm b) : sumK k a = sumK k b := ((ofK_perm h).map _).sum_nat
theorem Fits.perm {l : List FT} {a b : List (CT × Nat)} (h : a.Perm b) (ha : Fits l a) : Fits l b := fun k f hk => by
  obtain ⟨h1, h2⟩ := ha k f hk
  rw [← (ofK_perm h).length_eq, ← sumK_perm h]
  exact ⟨h1, h2⟩
theorem Fits.sub {l : List FT} {a b : List (CT × Nat)} (h : b.Sublist a) (ha : Fits l a) : Fits l b := fun k f hk => by
  obtain ⟨h1, h2⟩ := ha k f hk
  have hs : (ofK k b).Sublist (ofK k a) := h.filter _
  refine ⟨fun hm => Nat.le_trans hs.length_le (h1 hm), fun hm => Nat.le_trans ?_ (h2 hm)⟩
  have : ∀ {x y : List Nat}, x.Sublist y → x.sum ≤ y.sum := by
    intro x y hxy
    induction hxy with
    | slnil => simp
    | cons a _ ih => simp only [List.sum_cons]; omega
    | cons_cons a _ ih => simp only [List.sum_cons]; omega
  exact this (hs.map _)
theorem Fits.nil (l : List FT) : Fits l [] := fun k f hk => by simp [ofK, sumK]

variable {dec run}
theorem oneF_field {l : List FT} {e : ET} {c : CT × Nat} (h : oneF dec run l e = some c) : ∃ (k : Nat) (f : FT), findF l e.field = some k ∧ l[k]? = some f ∧ kindOk f e.text e.nums = true ∧ valueF dec run f k e = some c ∧ c.1.field = k := by
  unfold oneF at h
  split at h
  · cases h
  · rename_i k hk
    split at h
    · cases h
    · rename_i f hf
      split at h
      · cases h
      · rename_i hkk
        refine ⟨k, f, hk, hf, by simpa using hkk, h, ?_⟩
        unfold valueF at h
        split at h
        · cases hr : run f e.text with
          | none => rw [hr] at h; cases h
          | some n => rw [hr] at h; cases h; rfl
        · split at h
          · split at h
            · cases h; rfl
            · cases h
          · split at h
            · cases hr : dec f e.text with
              | none => rw [hr] at h; cases h
              | some n => rw [hr] at h; cases h; rfl
            · cases h; rfl
theorem valueF_zero {f : FT} {k : Nat} {e : ET} {c : CT × Nat} (h : valueF dec run f k e = some c) (hf : f.kind ≠ 1) : c.2 = 0 := by
  unfold valueF at h
  rw [if_neg hf] at h
  split at h
  · split at h
    · cases h; rfl
    · cases h
  · split at h
    · cases hr : dec f e.text with
      | none => rw [hr] at h; cases h
      | some n => rw [hr] at h; cases h; rfl
    · cases h; rfl
/-- A step goes just if the entry may be by itself and its cell beside the others. -/
theorem stepF_iff {l : List FT} {out : List (CT × Nat)} {e : ET} {c : CT × Nat} (ho : Fits l out) : stepF dec run l out e = .ok c ↔ oneF dec run l e = some c ∧ Fits l (out ++ [c]) := by
  constructor
  · intro h
    unfold stepF at h
    split at h
    · cases h
    · rename_i k hk
      split at h
      · cases h
      · rename_i f hf
        split at h
        · cases h
        · rename_i hkk
          split at h
          · cases h
          · rename_i hm
            split at h
            · cases h
            · rename_i c' hc'
              split at h
              · cases h
              · rename_i hs
                injection h with h
                subst h
                have h1 : oneF dec run l e = some c' := by
                  unfold oneF
                  simp only [hk, hf]
                  rw [if_neg hkk]; exact hc'
                obtain ⟨k', f', g1, g2, _, g3, g4⟩ := oneF_field h1
                rw [hk] at g1; cases g1
                refine ⟨h1, fun j g hj => ?_⟩
                rw [ofK_append, sumK_append, List.length_append]
                by_cases hjk : j = k
                · subst hjk
                  rw [hf] at hj; cases hj
                  refine ⟨fun hmm => ?_, fun hmm => ?_⟩
                  · have : (ofK j out).length = 0 := by
                      rcases Nat.eq_zero_or_pos (ofK j out).length with h0 | h0
                      · exact h0
                      · exact absurd ⟨hmm, h0⟩ hm
                    rw [this]
                    have := List.length_filter_le (fun c : CT × Nat => decide (c.1.field = j)) [c']
                    simpa [ofK] using this
                  · have : sumK j [c'] = c'.2 := by simp [sumK, ofK, g4]
                    rw [this]
                    omega
                · have h0 : ofK j [c'] = [] := by
                    simp only [ofK, List.filter_cons, List.filter_nil, g4]
                    rw [if_neg (by simp; omega)]
                  have h1 : sumK j [c'] = 0 := by simp [sumK, h0]
                  rw [h0, h1]
                  exact ho j g hj
  · rintro ⟨h1, h2⟩
    obtain ⟨k, f, g1, g2, g3, g4, g5⟩ := oneF_field h1
    obtain ⟨h3, h4⟩ := h2 k f g2
    have e1 : (ofK k [c]) = [c] := by simp [ofK, g5]
    have e2 : sumK k [c] = c.2 := by simp [sumK, e1]
    rw [ofK_append, e1, List.length_append, List.length_singleton] at h3
    rw [sumK_append, e2] at h4
    unfold stepF
    simp only [g1, g2, g3, g4]
    rw [if_neg (by simp), if_neg (by rintro ⟨hm, h0⟩; have := h3 hm; omega), if_neg (by rintro ⟨hm, h0⟩; have := h4 hm; omega)]
/-- All goes just if every entry may be by itself, and all their cells together. -/
theorem goF_iff {l : List FT} : ∀ {d : List ET} {out r : List (CT × Nat)}, Fits l out → (goF dec run l out d = .ok r ↔ ∃ cs, d.map (oneF dec run l) = cs.map some ∧ r = out ++ cs ∧ Fits l (out ++ cs))
  | [], out, r, ho => by
    simp only [goF, List.map_nil]
    constructor
    · intro h
      injection h with h
      exact ⟨[], rfl, by simp [h], by simpa using ho⟩
    · rintro ⟨cs, h1, h2, _⟩
      have : cs = [] := by cases cs <;> simp_all
      subst this
      rw [h2, List.append_nil]
  | e :: d, out, r, ho => by
    simp only [goF, List.map_cons]
    cases hs : stepF dec run l out e with
    | error n =>
      constructor
      · intro h; cases h
      · rintro ⟨cs, h1, h2, h3⟩
        cases cs with
        | nil => simp at h1
        | cons c cs =>
          simp only [List.map_cons, List.cons.injEq] at h1
          have := (stepF_iff (dec := dec) (run := run) (e := e) (c := c) ho).2 ⟨h1.1, Fits.sub (a := out ++ c :: cs) (List.Sublist.append_left (by simp) _) h3⟩
          rw [hs] at this; cases this
    | ok c =>
      obtain ⟨h1, h2⟩ := (stepF_iff ho).1 hs
      dsimp only
      rw [goF_iff h2]
      constructor
      · rintro ⟨cs, h3, h4, h5⟩
        exact ⟨c :: cs, by simp [h1, h3], by simp [h4], by simpa using h5⟩
      · rintro ⟨cs, h3, h4, h5⟩
        cases cs with
        | nil => simp at h3
        | cons c' cs =>
          simp only [List.map_cons, List.cons.injEq] at h3
          obtain ⟨h3, h6⟩ := h3
          rw [h1] at h3
          cases h3
          exact ⟨cs, h6, by simp [h4], by simpa using h5⟩
theorem cellsF_iff {l : List FT} {d : List ET} {r : List CT} : cellsF dec run l d = .ok r ↔ checkS l = true ∧ d.length ≤ 64 ∧ ∃ cs, d.map (oneF dec run l) = cs.map some ∧ r = cs.map (·.1) ∧ Fits l cs := by
  unfold cellsF
  by_cases h1 : checkS l = false
  · rw [if_pos h1]
    constructor
    · intro h; cases h
    · rintro ⟨h, _⟩; rw [h1] at h; cases h
  · rw [if_neg h1]
    by_cases h2 : 64 < d.length
    · rw [if_pos h2]
      constructor
      · intro h; cases h
      · rintro ⟨_, h, _⟩; omega
    · rw [if_neg h2]
      constructor
      · intro h
        cases hg : goF dec run l [] d with
        | error n => rw [hg] at h; cases h
        | ok o =>
          rw [hg] at h
          injection h with h
          obtain ⟨cs, h3, h4, h5⟩ := (goF_iff (Fits.nil l)).1 hg
          rw [List.nil_append] at h4 h5
          subst h4
          exact ⟨by simpa using h1, by omega, o, h3, h.symm, h5⟩
      · rintro ⟨_, _, cs, h3, h4, h5⟩
        have := (goF_iff (dec := dec) (run := run) (d := d) (r := cs) (Fits.nil l)).2 ⟨cs, h3, by simp, by simpa using h5⟩
        rw [this, h4]; rfl
/-- The order of entries makes no difference; the cells go with them. -/
theorem cellsF_turn {l : List FT} {d : List ET} {r : List CT} (n : Nat) (h : cellsF dec run l d = .ok r) : cellsF dec run l (d.drop n ++ d.take n) = .ok (r.drop n ++ r.take n) := by
  rw [cellsF_iff] at h ⊢
  obtain ⟨h1, h2, cs, h3, h4, h5⟩ := h
  refine ⟨h1, by simp; omega, cs.drop n ++ cs.take n, ?_, ?_, Fits.perm ?_ h5⟩
  · rw [List.map_append, List.map_append, List.map_drop, List.map_take, h3, List.map_drop, List.map_take]
  · rw [h4, List.map_append, List.map_drop, List.map_take]
  · have := (List.perm_append_comm (l₁ := cs.take n) (l₂ := cs.drop n))
    rwa [List.take_append_drop] at this
theorem cellsF_unturn {l : List FT} {d : List ET} {r : List CT} {n : Nat} (hn : n ≤ d.length) (h : cellsF dec run l (d.drop n ++ d.take n) = .ok r) : ∃ r', cellsF dec run l d = .ok r' := by
  refine ⟨r.drop (d.length - n) ++ r.take (d.length - n), ?_⟩
  have := cellsF_turn (d.length - n) h
  have e1 : (d.drop n ++ d.take n).drop (d.length - n) = d.take n := by rw [List.drop_append_of_le_length (by simp), List.drop_of_length_le (by simp), List.nil_append]
  have e2 : (d.drop n ++ d.take n).take (d.length - n) = d.drop n := by rw [List.take_append_of_le_length (by simp), List.take_of_length_le (by simp)]
  rwa [e1, e2, List.take_append_drop] at this
/-- Without one entry it is taken, too. -/
theorem cellsF_less {l : List FT} {d : List ET} {r : List CT} (k : Nat) (h : cellsF dec run l d = .ok r) : cellsF dec run l (d.take k ++ d.drop (k + 1)) = .ok (r.take k ++ r.drop (k + 1)) := by
  rw [cellsF_iff] at h ⊢
  obtain ⟨h1, h2, cs, h3, h4, h5⟩ := h
  refine ⟨h1, by simp; omega, cs.take k ++ cs.drop (k + 1), ?_, ?_, Fits.sub ?_ h5⟩
  · rw [List.map_append, List.map_append, List.map_drop, List.map_take, h3, List.map_drop, List.map_take]
  · rw [h4, List.map_append, List.map_drop, List.map_take]
  · conv => rhs; rw [← List.take_append_drop k cs]
    refine List.Sublist.append_left ?_ _
    rw [← List.drop_drop]
    exact List.drop_sublist _ _
theorem cellsF_len {l : List FT} {d : List ET} {r : List CT} (h : cellsF dec run l d = .ok r) : r.length = d.length := by
  rw [cellsF_iff] at h
  obtain ⟨_, _, cs, h3, h4, _⟩ := h
  have := congrArg List.length h3
  simp at this
  rw [h4, List.length_map, this]

/-! ### Cells told as entries again -/
variable (txt : FT → Int → ByteArray)
def wantC (f : FT) : Int := if f.kind = 3 ∨ f.kind = 4 then 1 else if f.kind = 5 then f.dims else 0
def backE (l : List FT) (c : CT) : Except Int ET := if c.field < 0 ∨ (l.length : Int) ≤ c.field then .error 81 else match l[c.field.toNat]? with
  | none => .error 81
  | some f =>
    if ¬ ((c.nums.length : Int) = wantC f) ∨ (0 < wantC f ∧ 0 < c.text.size) then .error 82
    else if f.kind = 4 then .ok ⟨f.name, txt f (c.nums.getD 0 0), []⟩ else .ok ⟨f.name, c.text, c.nums⟩
def backGo (l : List FT) : List CT → Except Int (List ET)
  | [] => .ok []
  | c :: cs => match backE txt l c with
    | .error n => .error n
    | .ok e => match backGo l cs with
      | .error n => .error n
      | .ok d => .ok (e :: d)
def backF (l : List FT) (cs : List CT) : Except Int (List ET) := if checkS l = false then .error 80 else backGo txt l cs

theorem find_name {l : List FT} (h : checkS l = true) {k : Nat} {f : FT} (hk : l[k]? = some f) : findF l f.name = some k := by
  obtain ⟨hk1, rfl⟩ := List.getElem?_eq_some_iff.1 hk
  unfold checkS at h
  simp only [Bool.and_eq_true] at h
  have h2 := h.2
  unfold okTo at h2
  rw [List.all_eq_true] at h2
  have h3 := h2 k (List.mem_range.2 hk1)
  rw [okAt_eq hk1, Bool.and_eq_true] at h3
  have h4 := h3.1
  rw [first_find hk1] at h4
  exact of_decide_eq_true h4
theorem may_of {l : List FT} (h : checkS l = true) {k : Nat} {f : FT} (hk : l[k]? = some f) : mayB f = true := by
  obtain ⟨hk1, rfl⟩ := List.getElem?_eq_some_iff.1 hk
  unfold checkS at h
  simp only [Bool.and_eq_true] at h
  have h2 := h.2
  unfold okTo at h2
  rw [List.all_eq_true] at h2
  have h3 := h2 k (List.mem_range.2 hk1)
  rw [okAt_eq hk1, Bool.and_eq_true] at h3
  exact h3.2
theorem kind_of {f : FT} (h : mayB f = true) : f.kind = 1 ∨ f.kind = 2 ∨ f.kind = 3 ∨ f.kind = 4 ∨ (f.kind = 5 ∧ 1 ≤ f.dims ∧ f.dims ≤ 4) := by
  unfold mayB at h
  simp only [Bool.and_eq_true] at h
  have h2 := h.2
  unfold kindB at h2
  split at h2
  · exact .inl ‹_›
  · split at h2
    · omega
    · split at h2
      · omega
      · split at h2
        · rename_i h5
          have := of_decide_eq_true h2
          exact .inr (.inr (.inr (.inr ⟨h5, this⟩)))
        · cases h2
/-- A cell of an entry is told as an entry, and that has the same cell. -/
theorem back_one {l : List FT} (h : checkS l = true) (hD : ∀ (f : FT) (s : ByteArray) (n : Int), mayB f = true → f.kind = 4 → dec f s = some n → dec f (txt f n) = some n) {e : ET} {c : CT × Nat} (hc : oneF dec run l e = some c) :
    ∃ e', backE txt l c.1 = .ok e' ∧ oneF dec run l e' = some c := by
  obtain ⟨k, f, g1, g2, g3, g4, g5⟩ := oneF_field hc
  have hkl := (List.getElem?_eq_some_iff.1 g2).1
  have hm := may_of h g2
  have hf := find_name h g2
  have hne : ¬ (c.1.field < 0 ∨ (l.length : Int) ≤ c.1.field) := by rw [g5]; omega
  have hfl : l[c.1.field.toNat]? = some f := by rw [g5, Int.toNat_natCast]; exact g2
  simp only [kindOk, Bool.and_eq_true, decide_eq_true_eq, Bool.or_eq_true] at g3
  have hone : ∀ e' : ET, e'.field = f.name → kindOk f e'.text e'.nums = true → oneF dec run l e' = valueF dec run f k e' := by
    intro e' h1 h2
    unfold oneF
    simp only [h1, hf, g2, h2]
    rw [if_neg (by simp)]
  have hback : ((c.1.nums.length : Int) = wantC f) → (0 < wantC f → c.1.text.size = 0) → backE txt l c.1 = if f.kind = 4 then .ok ⟨f.name, txt f (c.1.nums.getD 0 0), []⟩ else .ok ⟨f.name, c.1.text, c.1.nums⟩ := by
    intro h1 h2
    unfold backE
    rw [if_neg hne]
    simp only [hfl]
    rw [if_neg (by
      rintro (h3 | ⟨h3, h4⟩)
      · exact h3 h1
      · have := h2 h3; omega)]
  have hg4 := g4
  unfold valueF at g4
  rcases kind_of hm with hk | hk | hk | hk | ⟨hk, hd1, hd2⟩
  · have hw : wantN f = 0 := by simp [wantN, hk]
    have hc' : wantC f = 0 := by simp [wantC, hk]
    rw [if_pos hk] at g4
    cases hr : run f e.text with
    | none => rw [hr] at g4; cases g4
    | some n =>
      rw [hr] at g4; cases g4
      rw [hback (by simp [hc']) (by omega), if_neg (by omega)]
      refine ⟨_, rfl, ?_⟩
      rw [hone _ rfl (by simp [kindOk, hw])]
      simp [valueF, hk, hr]
  · have hw : wantN f = 0 := by simp [wantN, hk]
    have hc' : wantC f = 0 := by simp [wantC, hk]
    rw [if_neg (by omega), if_pos hk] at g4
    split at g4
    · rename_i hs
      cases g4
      rw [hback (by simp [hc']) (by omega), if_neg (by omega)]
      refine ⟨_, rfl, ?_⟩
      rw [hone _ rfl (by simp [kindOk, hw])]
      simp [valueF, hk, hs]
    · cases g4
  · have hw : wantN f = 1 := by simp [wantN, hk]
    have hc' : wantC f = 1 := by simp [wantC, hk]
    rw [if_neg (by omega), if_neg (by omega), if_neg (by omega)] at g4
    cases g4
    rw [hback (by rw [hc', ← hw]; exact g3.1) (fun _ => rfl), if_neg (by omega)]
    refine ⟨_, rfl, ?_⟩
    rw [hone _ rfl (by simp only [kindOk, Bool.and_eq_true, decide_eq_true_eq, Bool.or_eq_true]; exact ⟨g3.1, .inr rfl⟩)]
    simp [valueF, hk]
  · have hw : wantN f = 0 := by simp [wantN, hk]
    have hc' : wantC f = 1 := by simp [wantC, hk]
    rw [if_neg (by omega), if_neg (by omega), if_pos hk] at g4
    cases hr : dec f e.text with
    | none => rw [hr] at g4; cases g4
    | some n =>
      rw [hr] at g4; cases g4
      rw [hback (by simp [hc']) (fun _ => rfl), if_pos hk]
      refine ⟨_, rfl, ?_⟩
      rw [hone _ rfl (by simp [kindOk, hw])]
      have := hD f e.text n hm hk hr
      simp [valueF, hk, this]
  · have hw : wantN f = f.dims := by simp [wantN, hk]
    have hc' : wantC f = f.dims := by simp [wantC, hk]
    rw [if_neg (by omega), if_neg (by omega), if_neg (by omega)] at g4
    cases g4
    rw [hback (by rw [hc', ← hw]; exact g3.1) (fun _ => rfl), if_neg (by omega)]
    refine ⟨_, rfl, ?_⟩
    rw [hone _ rfl (by simp only [kindOk, Bool.and_eq_true, decide_eq_true_eq, Bool.or_eq_true]; exact ⟨g3.1, .inr rfl⟩)]
    simp [valueF, hk]
theorem back_all {l : List FT} (h : checkS l = true) (hD : ∀ (f : FT) (s : ByteArray) (n : Int), mayB f = true → f.kind = 4 → dec f s = some n → dec f (txt f n) = some n) : ∀ {d : List ET} {cs : List (CT × Nat)}, d.map (oneF dec run l) = cs.map some → ∃ b, backGo txt l (cs.map (·.1)) = .ok b ∧ b.map (oneF dec run l) = cs.map some
  | [], [], _ => ⟨[], rfl, rfl⟩
  | [], c :: cs, h' => by simp at h'
  | e :: d, [], h' => by simp at h'
  | e :: d, c :: cs, h' => by
    simp only [List.map_cons, List.cons.injEq] at h'
    obtain ⟨e', h1, h2⟩ := back_one txt h hD h'.1
    obtain ⟨b, h3, h4⟩ := back_all h hD h'.2
    exact ⟨e' :: b, by simp [backGo, h1, h3], by simp [h2, h4]⟩
/-- THE STAGE'S LAW: a document that is taken is told by its cells. -/
theorem cellsF_back {l : List FT} (hD : ∀ (f : FT) (s : ByteArray) (n : Int), mayB f = true → f.kind = 4 → dec f s = some n → dec f (txt f n) = some n) {d : List ET} {r : List CT} (h : cellsF dec run l d = .ok r) :
    ∃ b, backF txt l r = .ok b ∧ cellsF dec run l b = .ok r ∧ b.length = d.length := by
  rw [cellsF_iff] at h
  obtain ⟨h1, h2, cs, h3, h4, h5⟩ := h
  obtain ⟨b, h6, h7⟩ := back_all txt h1 hD h3
  have hl : b.length = d.length := by
    have e1 := congrArg List.length h3
    have e2 := congrArg List.length h7
    simp at e1 e2
    omega
  refine ⟨b, ?_, ?_, hl⟩
  · rw [backF, if_neg (by simp [h1]), h4]; exact h6
  · rw [cellsF_iff]
    exact ⟨h1, by omega, cs, h7, h4, h5⟩
end
end SchP
