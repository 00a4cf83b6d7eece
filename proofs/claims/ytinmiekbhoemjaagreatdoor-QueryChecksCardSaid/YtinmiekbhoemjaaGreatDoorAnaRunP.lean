/- How a text is cut into runs and tokens, as plain Lean functions: runs by the numbers of runes, the tokens of a cut, checks of chains, a whole run. -/
import Derived.Test.YtinmiekbhoemjaaGreatDoorPack3
namespace AnaP
open Go.Lib Go FoldP

def wordF (r : Int) : Bool := letterF r || digitF r
def mayF (r : Int) : Bool := wordF r || markF r
def solidF (r : Int) : Bool := !blankF r
def anyF (_ : Int) : Bool := true

/-- The runs of what is left of a row of runes, from number j on; a is where one has begun. -/
def runIx (may begins : Int → Bool) : List Int → Nat → Option Nat → List (Nat × Nat)
  | [], _, none => []
  | [], j, some a => [(a, j)]
  | r :: l, j, none => if may r && begins r then runIx may begins l (j + 1) (some j) else runIx may begins l (j + 1) none
  | r :: l, j, some a => if may r then runIx may begins l (j + 1) (some a) else (a, j) :: runIx may begins l (j + 1) none

/-- The token of a cut, in its place. -/
def tokAt (s : ByteArray) (i : Nat) (c : Nat × Nat) : TokD := ⟨s.extract (posAt s.data.toList c.1) (posAt s.data.toList c.2), i, posAt s.data.toList c.1, posAt s.data.toList c.2⟩
def tokOf (s : ByteArray) (cuts : List (Nat × Nat)) : List TokD := cuts.mapIdx (tokAt s)
theorem tokOf_len (s : ByteArray) (cuts : List (Nat × Nat)) : (tokOf s cuts).length = cuts.length := by simp [tokOf]
theorem tokOf_snoc (s : ByteArray) (cuts : List (Nat × Nat)) (c : Nat × Nat) : tokOf s (cuts ++ [c]) = tokOf s cuts ++ [tokAt s cuts.length c] := by simp [tokOf, List.mapIdx_append]

def runeL (l : List UInt8) : List Int := (runesL l).map (·.2)
theorem runeL_len (l : List UInt8) : (runeL l).length = nR l := by simp [runeL, nR]
/-- The two-rune pieces of a run. -/
def pieces2 (c : Nat × Nat) : List (Nat × Nat) := if c.2 = c.1 + 1 then [c] else (List.range (c.2 - c.1 - 1)).map fun i => (c.1 + i, c.1 + i + 2)
def cutF (n : Int) (l : List Int) : List (Nat × Nat) :=
  if n = 1 then runIx mayF wordF l 0 none else if n = 2 then runIx solidF solidF l 0 none else if n = 3 then (if l = [] then [] else [(0, l.length)]) else (runIx mayF wordF l 0 none).flatMap pieces2
def tokensF (n : Int) (s : ByteArray) : List TokD := tokOf s (cutF n (runeL s.data.toList))

/-! ### Runs: where they lie -/
theorem runIx_mem {may begins : Int → Bool} : ∀ (l : List Int) (j : Nat) (fr : Option Nat), (∀ a, fr = some a → a < j) → ∀ c ∈ runIx may begins l j fr, c.1 < c.2 ∧ c.2 ≤ j + l.length ∧ fr.getD j ≤ c.1
  | [], j, none, _, c, hc => by cases hc
  | [], j, some a, h, c, hc => by
    simp only [runIx, List.mem_singleton] at hc
    subst hc
    exact ⟨h a rfl, by simp, Nat.le_refl _⟩
  | r :: l, j, none, h, c, hc => by
    unfold runIx at hc
    split at hc
    · have := runIx_mem l (j + 1) (some j) (fun a e => by cases e; omega) c hc
      simp only [Option.getD_some, Option.getD_none, List.length_cons] at *; omega
    · have := runIx_mem l (j + 1) none (fun a e => by cases e) c hc
      simp only [Option.getD_none, List.length_cons] at *; omega
  | r :: l, j, some a, h, c, hc => by
    have ha := h a rfl
    unfold runIx at hc
    split at hc
    · have := runIx_mem l (j + 1) (some a) (fun a' e => by cases e; omega) c hc
      simp only [Option.getD_some, List.length_cons] at *; omega
    · rcases List.mem_cons.1 hc with rfl | hc
      · simp only [Option.getD_some, List.length_cons]; omega
      · have := runIx_mem l (j + 1) none (fun a' e => by cases e) c hc
        simp only [Option.getD_some, Option.getD_none, List.length_cons] at *; omega
theorem runIx_pair {may begins : Int → Bool} : ∀ (l : List Int) (j : Nat) (fr : Option Nat), (∀ a, fr = some a → a < j) → (runIx may begins l j fr).Pairwise (fun x y => x.2 ≤ y.1)
  | [], j, none, _ => List.Pairwise.nil
  | [], j, some a, h => List.pairwise_singleton _ _
  | r :: l, j, none, h => by
    unfold runIx
    split
    · exact runIx_pair l (j + 1) (some j) (fun a e => by cases e; omega)
    · exact runIx_pair l (j + 1) none (fun a e => by cases e)
  | r :: l, j, some a, h => by
    have ha := h a rfl
    unfold runIx
    split
    · exact runIx_pair l (j + 1) (some a) (fun a' e => by cases e; omega)
    · refine List.pairwise_cons.2 ⟨fun c hc => ?_, runIx_pair l (j + 1) none (fun a' e => by cases e)⟩
      have := runIx_mem l (j + 1) none (fun a' e => by cases e) c hc
      simp only [Option.getD_none] at this; show j ≤ c.1; omega
theorem runIx_len {may begins : Int → Bool} : ∀ (l : List Int) (j : Nat) (fr : Option Nat), (runIx may begins l j fr).length ≤ l.length + (if fr = none then 0 else 1)
  | [], j, none => by simp [runIx]
  | [], j, some a => by simp [runIx]
  | r :: l, j, none => by
    unfold runIx
    split
    · have := runIx_len (may := may) (begins := begins) l (j + 1) (some j); simp only [reduceCtorEq, if_false, List.length_cons, if_true] at *; omega
    · have := runIx_len (may := may) (begins := begins) l (j + 1) none; simp only [List.length_cons, if_true] at *; omega
  | r :: l, j, some a => by
    unfold runIx
    split
    · have := runIx_len (may := may) (begins := begins) l (j + 1) (some a); simp only [reduceCtorEq, if_false, List.length_cons] at *; omega
    · have := runIx_len (may := may) (begins := begins) l (j + 1) none; simp only [reduceCtorEq, if_false, List.length_cons, if_true] at *; omega
theorem runIx_any : ∀ (l : List Int) (j : Nat) (a : Nat), runIx anyF anyF l j (some a) = [(a, j + l.length)]
  | [], j, a => by simp [runIx]
  | r :: l, j, a => by simp only [runIx, anyF, if_true]; rw [runIx_any l (j + 1) a, List.length_cons]; congr 2; omega
theorem runIx_whole (l : List Int) : runIx anyF anyF l 0 none = if l = [] then [] else [(0, l.length)] := by
  cases l with
  | nil => rfl
  | cons r l => simp only [runIx, anyF, Bool.and_self, if_true]; rw [runIx_any l (0 + 1) 0, List.length_cons, if_neg (by simp)]; congr 2; omega

/-! ### Cuts: where they lie -/
def CutOk (n : Nat) (cuts : List (Nat × Nat)) : Prop := (∀ c ∈ cuts, c.1 < c.2 ∧ c.2 ≤ n) ∧ cuts.Pairwise (fun x y => x.1 ≤ y.1)
theorem cut_runs (may begins : Int → Bool) (l : List Int) : CutOk l.length (runIx may begins l 0 none) :=
  ⟨fun c hc => by have := runIx_mem l 0 none (fun a e => by cases e) c hc; omega, (runIx_pair (may := may) (begins := begins) l 0 none (fun a e => by cases e)).imp_of_mem (fun {x y} hx hy h => by
    have := runIx_mem l 0 none (fun a e => by cases e) x hx; omega)⟩
theorem pieces2_mem {c x : Nat × Nat} (hc : c.1 < c.2) (h : x ∈ pieces2 c) : c.1 ≤ x.1 ∧ x.1 < x.2 ∧ x.2 ≤ c.2 := by
  unfold pieces2 at h
  split at h
  · simp only [List.mem_singleton] at h; subst h; omega
  · simp only [List.mem_map, List.mem_range] at h
    obtain ⟨i, hi, rfl⟩ := h
    dsimp only; omega
theorem pieces2_pair (c : Nat × Nat) : (pieces2 c).Pairwise (fun x y => x.1 ≤ y.1) := by
  unfold pieces2
  split
  · exact List.pairwise_singleton _ _
  · rw [List.pairwise_map]
    exact (List.pairwise_lt_range (n := c.2 - c.1 - 1)).imp_of_mem (fun {a b} _ _ h => by dsimp only; omega)
theorem pieces2_len (c : Nat × Nat) (h : c.1 < c.2) : (pieces2 c).length ≤ c.2 - c.1 := by
  unfold pieces2
  split
  · simp only [List.length_singleton]; omega
  · simp only [List.length_map, List.length_range]; omega
theorem flat_pair : ∀ (L : List (Nat × Nat)), (∀ c ∈ L, c.1 < c.2) → L.Pairwise (fun x y => x.2 ≤ y.1) → (L.flatMap pieces2).Pairwise (fun x y => x.1 ≤ y.1)
  | [], _, _ => List.Pairwise.nil
  | c :: L, h, hp => by
    rw [List.pairwise_cons] at hp
    rw [List.flatMap_cons, List.pairwise_append]
    refine ⟨pieces2_pair c, flat_pair L (fun x hx => h x (List.mem_cons_of_mem _ hx)) hp.2, fun x hx y hy => ?_⟩
    rw [List.mem_flatMap] at hy
    obtain ⟨d, hd, hy⟩ := hy
    have h1 := pieces2_mem (h c (by simp)) hx
    have h2 := pieces2_mem (h d (List.mem_cons_of_mem _ hd)) hy
    have h3 := hp.1 d hd
    omega
theorem flat_len : ∀ (L : List (Nat × Nat)) (lo hi : Nat), lo ≤ hi → (∀ c ∈ L, c.1 < c.2 ∧ lo ≤ c.1 ∧ c.2 ≤ hi) → L.Pairwise (fun x y => x.2 ≤ y.1) → (L.flatMap pieces2).length ≤ hi - lo
  | [], lo, hi, _, _, _ => by simp
  | c :: L, lo, hi, hlh, h, hp => by
    rw [List.pairwise_cons] at hp
    obtain ⟨h1, h2, h3⟩ := h c (by simp)
    have := flat_len L c.2 hi h3 (fun x hx => ⟨(h x (List.mem_cons_of_mem _ hx)).1, hp.1 x hx, (h x (List.mem_cons_of_mem _ hx)).2.2⟩) hp.2
    have := pieces2_len c h1
    rw [List.flatMap_cons, List.length_append]; omega
theorem cutF_ok (n : Int) (l : List Int) : CutOk l.length (cutF n l) := by
  unfold cutF
  split
  · exact cut_runs _ _ l
  · split
    · exact cut_runs _ _ l
    · split
      · split
        · exact ⟨fun c hc => (by cases hc), List.Pairwise.nil⟩
        · rename_i hl
          have : 0 < l.length := List.length_pos_iff.2 hl
          exact ⟨fun c hc => by simp only [List.mem_singleton] at hc; subst hc; dsimp only; omega, List.pairwise_singleton _ _⟩
      · refine ⟨fun c hc => ?_, flat_pair _ (fun c hc => (runIx_mem l 0 none (fun a e => by cases e) c hc).1) (runIx_pair l 0 none (fun a e => by cases e))⟩
        rw [List.mem_flatMap] at hc
        obtain ⟨d, hd, hc⟩ := hc
        have h1 := runIx_mem l 0 none (fun a e => by cases e) d hd
        have h2 := pieces2_mem h1.1 hc
        omega
theorem cutF_len (n : Int) (l : List Int) : (cutF n l).length ≤ l.length := by
  unfold cutF
  split
  · have := runIx_len (may := mayF) (begins := wordF) l 0 none; simpa using this
  · split
    · have := runIx_len (may := solidF) (begins := solidF) l 0 none; simpa using this
    · split
      · split
        · simp
        · rename_i hl
          have : 0 < l.length := List.length_pos_iff.2 hl
          simp only [List.length_singleton]; omega
      · have := flat_len (runIx mayF wordF l 0 none) 0 l.length (Nat.zero_le _) (fun c hc => by have := runIx_mem l 0 none (fun a e => by cases e) c hc; omega) (runIx_pair l 0 none (fun a e => by cases e))
        omega

/-! ### Chains -/
def checkGo : List Int → List Int → Bool
  | _, [] => true
  | seen, n :: t => filterB n && !seen.contains n && checkGo (seen ++ [n]) t
def checkB : List Int → Bool
  | [] => false
  | c :: t => decide (t.length ≤ 7) && decide (1 ≤ c) && decide (c ≤ 4) && checkGo [] t
/-- Is entry i of a chain as the document asks? -/
def goodAt (c : List Int) (i : Nat) : Bool := (if i = 0 then decide (1 ≤ c.getD 0 0 ∧ c.getD 0 0 ≤ 4) else filterB (c.getD i 0)) && (List.range i).all fun k => c.getD k 0 != c.getD i 0
def goodFrom (c : List Int) (i : Nat) : Bool := ((List.range c.length).drop i).all (goodAt c)
theorem goodFrom_step (c : List Int) (i : Nat) (h : i < c.length) : goodFrom c i = (goodAt c i && goodFrom c (i + 1)) := by
  unfold goodFrom
  rw [List.drop_eq_getElem_cons (by simpa using h), List.all_cons, List.getElem_range]
theorem goodFrom_end (c : List Int) (i : Nat) (h : c.length ≤ i) : goodFrom c i = true := by
  unfold goodFrom
  rw [List.drop_eq_nil_of_le (by simpa using h)]; rfl
theorem checkGo_iff : ∀ (t seen : List Int), checkGo seen t = true ↔ (∀ (i : Nat), i < t.length → filterB (t.getD i 0) = true ∧ t.getD i 0 ∉ seen ∧ ∀ k < i, t.getD k 0 ≠ t.getD i 0)
  | [], seen => by simp [checkGo]
  | n :: t, seen => by
    rw [checkGo, Bool.and_eq_true, Bool.and_eq_true, checkGo_iff t (seen ++ [n])]
    constructor
    · rintro ⟨⟨h1, h2⟩, h3⟩ i hi
      cases i with
      | zero => exact ⟨by simpa using h1, by simpa using h2, fun k hk => by omega⟩
      | succ i =>
        obtain ⟨a, b, c⟩ := h3 i (by simpa using hi)
        simp only [List.getD_cons_succ] at *
        rw [List.mem_append, not_or] at b
        refine ⟨a, b.1, fun k hk => ?_⟩
        cases k with
        | zero => simp only [List.getD_cons_zero]; intro e; exact b.2 (by simp [e])
        | succ k => simp only [List.getD_cons_succ]; exact c k (by omega)
    · intro h
      refine ⟨⟨?_, ?_⟩, fun i hi => ?_⟩
      · have := h 0 (by simp); simpa using this.1
      · have := h 0 (by simp); simpa using this.2.1
      · obtain ⟨a, b, c⟩ := h (i + 1) (by simpa using hi)
        simp only [List.getD_cons_succ] at *
        refine ⟨a, ?_, fun k hk => by have := c (k + 1) (by omega); simpa using this⟩
        rw [List.mem_append, not_or]
        refine ⟨b, fun e => ?_⟩
        have := c 0 (by omega)
        simp only [List.getD_cons_zero] at this
        simp only [List.mem_singleton] at e
        exact this e.symm
theorem filterB_iff (n : Int) : filterB n = true ↔ 10 ≤ n ∧ n ≤ 15 := by unfold filterB; simp
/-- The document's check is the program's. -/
theorem good_check (c : List Int) (h0 : c ≠ []) (h8 : c.length ≤ 8) : goodFrom c 0 = checkB c := by
  cases c with
  | nil => exact absurd rfl h0
  | cons a t =>
    rw [Bool.eq_iff_iff]
    unfold goodFrom checkB
    rw [List.drop_zero, List.all_eq_true]
    simp only [Bool.and_eq_true, decide_eq_true_eq, checkGo_iff, List.mem_range, List.length_cons, List.not_mem_nil, not_false_eq_true, true_and] at *
    constructor
    · intro h
      have h1 := h 0 (by omega)
      simp only [goodAt, if_true, List.getD_cons_zero, Bool.and_eq_true, decide_eq_true_eq] at h1
      refine ⟨⟨⟨by omega, h1.1.1⟩, h1.1.2⟩, fun i hi => ?_⟩
      have h2 := h (i + 1) (by omega)
      simp only [goodAt, Nat.add_eq_zero_iff, Nat.succ_ne_self, and_false, if_false, List.getD_cons_succ, Bool.and_eq_true, List.all_eq_true, List.mem_range, bne_iff_ne] at h2
      exact ⟨h2.1, fun k hk => by have := h2.2 (k + 1) (by omega); simpa using this⟩
    · rintro ⟨⟨⟨_, h1⟩, h2⟩, h3⟩ i hi
      cases i with
      | zero => simp [goodAt, h1, h2]
      | succ i =>
        obtain ⟨b, d⟩ := h3 i (by omega)
        simp only [goodAt, Nat.add_eq_zero_iff, Nat.succ_ne_self, and_false, if_false, List.getD_cons_succ, Bool.and_eq_true, List.all_eq_true, List.mem_range, bne_iff_ne]
        refine ⟨b, fun k hk => ?_⟩
        cases k with
        | zero =>
          rw [filterB_iff] at b
          simp only [List.getD_cons_zero]; omega
        | succ k => simp only [List.getD_cons_succ]; exact d k (by omega)

/-! ### A whole run -/
def linkAll : List Int → List TokD → List TokD × Int
  | [], t => (t, 0)
  | n :: ns, t => match linkF n t with
    | none => ([], 84)
    | some t' => linkAll ns t'
def runF (chain : List Int) (s : ByteArray) : List TokD × Int :=
  if checkB chain = false then ([], 60) else if 4096 < s.size then ([], 3) else if 4096 < (tokensF (chain.getD 0 0) s).length then ([], 84) else linkAll chain.tail (tokensF (chain.getD 0 0) s)

/-- What a filter makes of a text is no longer than it. -/
theorem one_size (n : Int) (s x : ByteArray) (h : x ∈ oneF n s) : x.size ≤ s.size := by
  have e1 : ∀ a b, (s.extract a b).size ≤ s.size := fun a b => by rw [ByteArray.size_extract]; omega
  have e2 : s.data.toList.length = s.size := by simp
  unfold oneF at h
  split at h
  · simp only [List.mem_singleton] at h; subst h
    show (foldL s.data.toList).toArray.size ≤ s.size
    rw [List.size_toArray, fold_length, e2]; exact Nat.le_refl _
  · split at h
    · split at h
      · cases h
      · simp only [List.mem_singleton] at h; subst h; exact Nat.le_refl _
    · split at h
      · unfold gramsF at h; split at h
        · simp only [List.mem_singleton] at h; subst h; exact Nat.le_refl _
        · rw [List.mem_map] at h; obtain ⟨i, _, rfl⟩ := h; exact e1 _ _
      · split at h
        · unfold gramsF at h; split at h
          · simp only [List.mem_singleton] at h; subst h; exact Nat.le_refl _
          · rw [List.mem_map] at h; obtain ⟨i, _, rfl⟩ := h; exact e1 _ _
        · split at h
          · unfold shortF at h; split at h
            · simp only [List.mem_singleton] at h; subst h; exact e1 _ _
            · simp only [List.mem_singleton] at h; subst h; exact Nat.le_refl _
          · unfold marksF at h; split at h
            · cases h
            · simp only [List.mem_singleton] at h; subst h
              show (unmarkTo s.data.toList (nR s.data.toList)).toArray.size ≤ s.size
              have := unmarkTo_len s.data.toList (nR s.data.toList) (Nat.le_refl _)
              rw [posAt_end, e2] at this
              rw [List.size_toArray]; exact this
/-- A property of tokens that each filter keeps is kept by a link. -/
theorem linkGo_all {p : TokD → Prop} {n : Int} (hp : ∀ t x, p t → x ∈ oneF n t.text → p { t with text := x }) : ∀ (l acc ts : List TokD), (∀ t ∈ l, p t) → (∀ t ∈ acc, p t) → linkGo n l acc = some ts → ∀ t ∈ ts, p t
  | [], acc, ts, _, ha, e => by unfold linkGo at e; cases e; exact ha
  | t :: l, acc, ts, hl, ha, e => by
    unfold linkGo at e
    split at e
    · cases e
    · refine linkGo_all hp l _ ts (fun x hx => hl x (List.mem_cons_of_mem _ hx)) (fun x hx => ?_) e
      rcases List.mem_append.1 hx with hx | hx
      · exact ha x hx
      · unfold oneT at hx
        rw [List.mem_map] at hx
        obtain ⟨y, hy, rfl⟩ := hx
        exact hp t y (hl t (by simp)) hy
theorem link_all {p : TokD → Prop} {n : Int} {l ts : List TokD} (hp : ∀ t x, p t → x ∈ oneF n t.text → p { t with text := x }) (hl : ∀ t ∈ l, p t) (e : linkF n l = some ts) : ∀ t ∈ ts, p t := linkGo_all hp l [] ts hl (fun t h => by cases h) e
theorem linkGo_len4 (n : Int) : ∀ (l acc ts : List TokD), acc.length ≤ 4096 → linkGo n l acc = some ts → ts.length ≤ 4096
  | [], acc, ts, h, e => by unfold linkGo at e; cases e; exact h
  | t :: l, acc, ts, h, e => by
    unfold linkGo at e
    split at e
    · cases e
    · exact linkGo_len4 n l _ ts (by omega) e
theorem linkF_len4 {n : Int} {l ts : List TokD} (e : linkF n l = some ts) : ts.length ≤ 4096 := linkGo_len4 n l [] ts (by simp) e
theorem tokensF_size (n : Int) (s : ByteArray) (t : TokD) (h : t ∈ tokensF n s) : t.text.size ≤ s.size := by
  unfold tokensF tokOf at h
  rw [List.mem_mapIdx] at h
  obtain ⟨i, hi, rfl⟩ := h
  show (s.extract _ _).size ≤ s.size
  rw [ByteArray.size_extract]; omega
theorem tokensF_len (n : Int) (s : ByteArray) : (tokensF n s).length ≤ s.size := by
  unfold tokensF
  rw [tokOf_len]
  have h1 := cutF_len n (runeL s.data.toList)
  have h2 := nR_le s.data.toList
  have e2 : s.data.toList.length = s.size := by simp
  rw [runeL_len] at h1; omega
end AnaP
