/- Merged texts: How a text is cut into runs and tokens, as plain Lean functions: runs by the numbers of runes, the tokens of a cut, checks of chains, a whole run. A piece of a text is cut into runes as the text is; two texts with a blank between. Plain laws: where tokens lie, a chain's last link, two texts with a blank between. Plain: the document's known runs. -/
import Derived.Test.YtfbedonphhiolaaDoorAnaP
import Derived.Test.YtfbedonphhiolaaDoorFoldBackP
section
namespace AnaP
open Go.Lib Go FoldP

def wordF (r : Int) : Bool := letterF r || digitF r
def mayF (r : Int) : Bool := wordF r || markF r
def solidF (r : Int) : Bool := !blankF r
def anyF (_ : Int) : Bool := true

/-- The runs of what is left of a row of runes, from number j on; a is where one has begun. -/
def runIx (may begins : Int → Bool) : List Int → Nat → Option Nat → List (Nat × Nat)
  | [], _, none => []
  | [], j, some a => [(a, j)]
  | r :: l, j, none => if may r && begins r then runIx may begins l (j + 1) (some j) else runIx may begins l (j + 1) none
  | r :: l, j, some a => if may r then runIx may begins l (j + 1) (some a) else (a, j) :: runIx may begins l (j + 1) none

/-- The token of a cut, in its place. -/
def tokAt (s : ByteArray) (i : Nat) (c : Nat × Nat) : TokD := ⟨s.extract (posAt s.data.toList c.1) (posAt s.data.toList c.2), i, posAt s.data.toList c.1, posAt s.data.toList c.2⟩
def tokOf (s : ByteArray) (cuts : List (Nat × Nat)) : List TokD := cuts.mapIdx (tokAt s)
theorem tokOf_len (s : ByteArray) (cuts : List (Nat × Nat)) : (tokOf s cuts).length = cuts.length := by simp [tokOf]
theorem tokOf_snoc (s : ByteArray) (cuts : List (Nat × Nat)) (c : Nat × Nat) : tokOf s (cuts ++ [c]) = tokOf s cuts ++ [tokAt s cuts.length c] := by simp [tokOf, List.mapIdx_append]

def runeL (l : List UInt8) : List Int := (runesL l).map (·.2)
theorem runeL_len (l : List UInt8) : (runeL l).length = nR l := by simp [runeL, nR]
theorem runeL_get (l : List UInt8) (i : Nat) (h : i < nR l) : (runeL l)[i]? = some ((decodeL (l.drop (posAt l i))).1 : Int) := by
  unfold runeL; rw [List.getElem?_map, runes_get l i h]; rfl

/-- The two-rune pieces of a run. -/
def pieces2 (c : Nat × Nat) : List (Nat × Nat) := if c.2 = c.1 + 1 then [c] else (List.range (c.2 - c.1 - 1)).map fun i => (c.1 + i, c.1 + i + 2)
def cutF (n : Int) (l : List Int) : List (Nat × Nat) :=
  if n = 1 then runIx mayF wordF l 0 none else if n = 2 then runIx solidF solidF l 0 none else if n = 3 then (if l = [] then [] else [(0, l.length)]) else (runIx mayF wordF l 0 none).flatMap pieces2
def tokensF (n : Int) (s : ByteArray) : List TokD := tokOf s (cutF n (runeL s.data.toList))

/-! ### Runs: where they lie -/
theorem runIx_mem {may begins : Int → Bool} : ∀ (l : List Int) (j : Nat) (fr : Option Nat), (∀ a, fr = some a → a < j) → ∀ c ∈ runIx may begins l j fr, c.1 < c.2 ∧ c.2 ≤ j + l.length ∧ fr.getD j ≤ c.1
  | [], j, none, _, c, hc => by cases hc
  | [], j, some a, h, c, hc => by
    simp only [runIx, List.mem_singleton] at hc
    subst hc
    exact ⟨h a rfl, by simp, Nat.le_refl _⟩
  | r :: l, j, none, h, c, hc => by
    unfold runIx at hc
    split at hc
    · have := runIx_mem l (j + 1) (some j) (fun a e => by cases e; omega) c hc
      simp only [Option.getD_some, Option.getD_none, List.length_cons] at *; omega
    · have := runIx_mem l (j + 1) none (fun a e => by cases e) c hc
      simp only [Option.getD_none, List.length_cons] at *; omega
  | r :: l, j, some a, h, c, hc => by
    have ha := h a rfl
    unfold runIx at hc
    split at hc
    · have := runIx_mem l (j + 1) (some a) (fun a' e => by cases e; omega) c hc
      simp only [Option.getD_some, List.length_cons] at *; omega
    · rcases List.mem_cons.1 hc with rfl | hc
      · simp only [Option.getD_some, List.length_cons]; omega
      · have := runIx_mem l (j + 1) none (fun a' e => by cases e) c hc
        simp only [Option.getD_some, Option.getD_none, List.length_cons] at *; omega
theorem runIx_pair {may begins : Int → Bool} : ∀ (l : List Int) (j : Nat) (fr : Option Nat), (∀ a, fr = some a → a < j) → (runIx may begins l j fr).Pairwise (fun x y => x.2 ≤ y.1)
  | [], j, none, _ => List.Pairwise.nil
  | [], j, some a, h => List.pairwise_singleton _ _
  | r :: l, j, none, h => by
    unfold runIx
    split
    · exact runIx_pair l (j + 1) (some j) (fun a e => by cases e; omega)
    · exact runIx_pair l (j + 1) none (fun a e => by cases e)
  | r :: l, j, some a, h => by
    have ha := h a rfl
    unfold runIx
    split
    · exact runIx_pair l (j + 1) (some a) (fun a' e => by cases e; omega)
    · refine List.pairwise_cons.2 ⟨fun c hc => ?_, runIx_pair l (j + 1) none (fun a' e => by cases e)⟩
      have := runIx_mem l (j + 1) none (fun a' e => by cases e) c hc
      simp only [Option.getD_none] at this; show j ≤ c.1; omega
theorem runIx_len {may begins : Int → Bool} : ∀ (l : List Int) (j : Nat) (fr : Option Nat), (runIx may begins l j fr).length ≤ l.length + (if fr = none then 0 else 1)
  | [], j, none => by simp [runIx]
  | [], j, some a => by simp [runIx]
  | r :: l, j, none => by
    unfold runIx
    split
    · have := runIx_len (may := may) (begins := begins) l (j + 1) (some j); simp only [reduceCtorEq, if_false, List.length_cons, if_true] at *; omega
    · have := runIx_len (may := may) (begins := begins) l (j + 1) none; simp only [List.length_cons, if_true] at *; omega
  | r :: l, j, some a => by
    unfold runIx
    split
    · have := runIx_len (may := may) (begins := begins) l (j + 1) (some a); simp only [reduceCtorEq, if_false, List.length_cons] at *; omega
    · have := runIx_len (may := may) (begins := begins) l (j + 1) none; simp only [reduceCtorEq, if_false, List.length_cons, if_true] at *; omega
theorem runIx_any : ∀ (l : List Int) (j : Nat) (a : Nat), runIx anyF anyF l j (some a) = [(a, j + l.length)]
  | [], j, a => by simp [runIx]
  | r :: l, j, a => by simp only [runIx, anyF, if_true]; rw [runIx_any l (j + 1) a, List.length_cons]; congr 2; omega
theorem runIx_whole (l : List Int) : runIx anyF anyF l 0 none = if l = [] then [] else [(0, l.length)] := by
  cases l with
  | nil => rfl
  | cons r l => simp only [runIx, anyF, Bool.and_self, if_true]; rw [runIx_any l (0 + 1) 0, List.length_cons, if_neg (by simp)]; congr 2; omega

/-! ### Cuts: where they lie -/
def CutOk (n : Nat) (cuts : List (Nat × Nat)) : Prop := (∀ c ∈ cuts, c.1 < c.2 ∧ c.2 ≤ n) ∧ cuts.Pairwise (fun x y => x.1 ≤ y.1)
theorem cut_runs (may begins : Int → Bool) (l : List Int) : CutOk l.length (runIx may begins l 0 none) :=
  ⟨fun c hc => by have := runIx_mem l 0 none (fun a e => by cases e) c hc; omega, (runIx_pair (may := may) (begins := begins) l 0 none (fun a e => by cases e)).imp_of_mem (fun {x y} hx hy h => by
    have := runIx_mem l 0 none (fun a e => by cases e) x hx; omega)⟩
theorem pieces2_mem {c x : Nat × Nat} (hc : c.1 < c.2) (h : x ∈ pieces2 c) : c.1 ≤ x.1 ∧ x.1 < x.2 ∧ x.2 ≤ c.2 := by
  unfold pieces2 at h
  split at h
  · simp only [List.mem_singleton] at h; subst h; omega
  · simp only [List.mem_map, List.mem_range] at h
    obtain ⟨i, hi, rfl⟩ := h
    dsimp only; omega
theorem pieces2_pair (c : Nat × Nat) : (pieces2 c).Pairwise (fun x y => x.1 ≤ y.1) := by
  unfold pieces2
  split
  · exact List.pairwise_singleton _ _
  · rw [List.pairwise_map]
    exact (List.pairwise_lt_range (n := c.2 - c.1 - 1)).imp_of_mem (fun {a b} _ _ h => by dsimp only; omega)
theorem pieces2_len (c : Nat × Nat) (h : c.1 < c.2) : (pieces2 c).length ≤ c.2 - c.1 := by
  unfold pieces2
  split
  · simp only [List.length_singleton]; omega
  · simp only [List.length_map, List.length_range]; omega
theorem flat_pair : ∀ (L : List (Nat × Nat)), (∀ c ∈ L, c.1 < c.2) → L.Pairwise (fun x y => x.2 ≤ y.1) → (L.flatMap pieces2).Pairwise (fun x y => x.1 ≤ y.1)
  | [], _, _ => List.Pairwise.nil
  | c :: L, h, hp => by
    rw [List.pairwise_cons] at hp
    rw [List.flatMap_cons, List.pairwise_append]
    refine ⟨pieces2_pair c, flat_pair L (fun x hx => h x (List.mem_cons_of_mem _ hx)) hp.2, fun x hx y hy => ?_⟩
    rw [List.mem_flatMap] at hy
    obtain ⟨d, hd, hy⟩ := hy
    have h1 := pieces2_mem (h c (by simp)) hx
    have h2 := pieces2_mem (h d (List.mem_cons_of_mem _ hd)) hy
    have h3 := hp.1 d hd
    omega
theorem flat_len : ∀ (L : List (Nat × Nat)) (lo hi : Nat), lo ≤ hi → (∀ c ∈ L, c.1 < c.2 ∧ lo ≤ c.1 ∧ c.2 ≤ hi) → L.Pairwise (fun x y => x.2 ≤ y.1) → (L.flatMap pieces2).length ≤ hi - lo
  | [], lo, hi, _, _, _ => by simp
  | c :: L, lo, hi, hlh, h, hp => by
    rw [List.pairwise_cons] at hp
    obtain ⟨h1, h2, h3⟩ := h c (by simp)
    have := flat_len L c.2 hi h3 (fun x hx => ⟨(h x (List.mem_cons_of_mem _ hx)).1, hp.1 x hx, (h x (List.mem_cons_of_mem _ hx)).2.2⟩) hp.2
    have := pieces2_len c h1
    rw [List.flatMap_cons, List.length_append]; omega
theorem cutF_ok (n : Int) (l : List Int) : CutOk l.length (cutF n l) := by
  unfold cutF
  split
  · exact cut_runs _ _ l
  · split
    · exact cut_runs _ _ l
    · split
      · split
        · exact ⟨fun c hc => (by cases hc), List.Pairwise.nil⟩
        · rename_i hl
          have : 0 < l.length := List.length_pos_iff.2 hl
          exact ⟨fun c hc => by simp only [List.mem_singleton] at hc; subst hc; dsimp only; omega, List.pairwise_singleton _ _⟩
      · refine ⟨fun c hc => ?_, flat_pair _ (fun c hc => (runIx_mem l 0 none (fun a e => by cases e) c hc).1) (runIx_pair l 0 none (fun a e => by cases e))⟩
        rw [List.mem_flatMap] at hc
        obtain ⟨d, hd, hc⟩ := hc
        have h1 := runIx_mem l 0 none (fun a e => by cases e) d hd
        have h2 := pieces2_mem h1.1 hc
        omega
theorem cutF_len (n : Int) (l : List Int) : (cutF n l).length ≤ l.length := by
  unfold cutF
  split
  · have := runIx_len (may := mayF) (begins := wordF) l 0 none; simpa using this
  · split
    · have := runIx_len (may := solidF) (begins := solidF) l 0 none; simpa using this
    · split
      · split
        · simp
        · rename_i hl
          have : 0 < l.length := List.length_pos_iff.2 hl
          simp only [List.length_singleton]; omega
      · have := flat_len (runIx mayF wordF l 0 none) 0 l.length (Nat.zero_le _) (fun c hc => by have := runIx_mem l 0 none (fun a e => by cases e) c hc; omega) (runIx_pair l 0 none (fun a e => by cases e))
        omega

/-! ### Chains -/
def checkGo : List Int → List Int → Bool
  | _, [] => true
  | seen, n :: t => filterB n && !seen.contains n && checkGo (seen ++ [n]) t
def checkB : List Int → Bool
  | [] => false
  | c :: t => decide (t.length ≤ 7) && decide (1 ≤ c) && decide (c ≤ 4) && checkGo [] t
/-- Is entry i of a chain as the document asks? -/
def goodAt (c : List Int) (i : Nat) : Bool := (if i = 0 then decide (1 ≤ c.getD 0 0 ∧ c.getD 0 0 ≤ 4) else filterB (c.getD i 0)) && (List.range i).all fun k => c.getD k 0 != c.getD i 0
def goodFrom (c : List Int) (i : Nat) : Bool := ((List.range c.length).drop i).all (goodAt c)
theorem goodFrom_step (c : List Int) (i : Nat) (h : i < c.length) : goodFrom c i = (goodAt c i && goodFrom c (i + 1)) := by
  unfold goodFrom
  rw [List.drop_eq_getElem_cons (by simpa using h), List.all_cons, List.getElem_range]
theorem goodFrom_end (c : List Int) (i : Nat) (h : c.length ≤ i) : goodFrom c i = true := by
  unfold goodFrom
  rw [List.drop_eq_nil_of_le (by simpa using h)]; rfl
theorem checkGo_iff : ∀ (t seen : List Int), checkGo seen t = true ↔ (∀ (i : Nat), i < t.length → filterB (t.getD i 0) = true ∧ t.getD i 0 ∉ seen ∧ ∀ k < i, t.getD k 0 ≠ t.getD i 0)
  | [], seen => by simp [checkGo]
  | n :: t, seen => by
    rw [checkGo, Bool.and_eq_true, Bool.and_eq_true, checkGo_iff t (seen ++ [n])]
    constructor
    · rintro ⟨⟨h1, h2⟩, h3⟩ i hi
      cases i with
      | zero => exact ⟨by simpa using h1, by simpa using h2, fun k hk => by omega⟩
      | succ i =>
        obtain ⟨a, b, c⟩ := h3 i (by simpa using hi)
        simp only [List.getD_cons_succ] at *
        rw [List.mem_append, not_or] at b
        refine ⟨a, b.1, fun k hk => ?_⟩
        cases k with
        | zero => simp only [List.getD_cons_zero]; intro e; exact b.2 (by simp [e])
        | succ k => simp only [List.getD_cons_succ]; exact c k (by omega)
    · intro h
      refine ⟨⟨?_, ?_⟩, fun i hi => ?_⟩
      · have := h 0 (by simp); simpa using this.1
      · have := h 0 (by simp); simpa using this.2.1
      · obtain ⟨a, b, c⟩ := h (i + 1) (by simpa using hi)
        simp only [List.getD_cons_succ] at *
        refine ⟨a, ?_, fun k hk => by have := c (k + 1) (by omega); simpa using this⟩
        rw [List.mem_append, not_or]
        refine ⟨b, fun e => ?_⟩
        have := c 0 (by omega)
        simp only [List.getD_cons_zero] at this
        simp only [List.mem_singleton] at e
        exact this e.symm
theorem filterB_iff (n : Int) : filterB n = true ↔ 10 ≤ n ∧ n ≤ 15 := by unfold filterB; simp
/-- The document's check is the program's. -/
theorem good_check (c : List Int) (h0 : c ≠ []) (h8 : c.length ≤ 8) : goodFrom c 0 = checkB c := by
  cases c with
  | nil => exact absurd rfl h0
  | cons a t =>
    rw [Bool.eq_iff_iff]
    unfold goodFrom checkB
    rw [List.drop_zero, List.all_eq_true]
    simp only [Bool.and_eq_true, decide_eq_true_eq, checkGo_iff, List.mem_range, List.length_cons, List.not_mem_nil, not_false_eq_true, true_and] at *
    constructor
    · intro h
      have h1 := h 0 (by omega)
      simp only [goodAt, if_true, List.getD_cons_zero, Bool.and_eq_true, decide_eq_true_eq] at h1
      refine ⟨⟨⟨by omega, h1.1.1⟩, h1.1.2⟩, fun i hi => ?_⟩
      have h2 := h (i + 1) (by omega)
      simp only [goodAt, Nat.add_eq_zero_iff, Nat.succ_ne_self, and_false, if_false, List.getD_cons_succ, Bool.and_eq_true, List.all_eq_true, List.mem_range, bne_iff_ne] at h2
      exact ⟨h2.1, fun k hk => by have := h2.2 (k + 1) (by omega); simpa using this⟩
    · rintro ⟨⟨⟨_, h1⟩, h2⟩, h3⟩ i hi
      cases i with
      | zero => simp [goodAt, h1, h2]
      | succ i =>
        obtain ⟨b, d⟩ := h3 i (by omega)
        simp only [goodAt, Nat.add_eq_zero_iff, Nat.succ_ne_self, and_false, if_false, List.getD_cons_succ, Bool.and_eq_true, List.all_eq_true, List.mem_range, bne_iff_ne]
        refine ⟨b, fun k hk => ?_⟩
        cases k with
        | zero =>
          rw [filterB_iff] at b
          simp only [List.getD_cons_zero]; omega
        | succ k => simp only [List.getD_cons_succ]; exact d k (by omega)

/-! ### A whole run -/
def linkAll : List Int → List TokD → List TokD × Int
  | [], t => (t, 0)
  | n :: ns, t => match linkF n t with
    | none => ([], 84)
    | some t' => linkAll ns t'
def runF (chain : List Int) (s : ByteArray) : List TokD × Int :=
  if checkB chain = false then ([], 60) else if 4096 < s.size then ([], 3) else if 4096 < (tokensF (chain.getD 0 0) s).length then ([], 84) else linkAll chain.tail (tokensF (chain.getD 0 0) s)

/-- What a filter makes of a text is no longer than it. -/
theorem one_size (n : Int) (s x : ByteArray) (h : x ∈ oneF n s) : x.size ≤ s.size := by
  have e1 : ∀ a b, (s.extract a b).size ≤ s.size := fun a b => by rw [ByteArray.size_extract]; omega
  have e2 : s.data.toList.length = s.size := by simp
  unfold oneF at h
  split at h
  · simp only [List.mem_singleton] at h; subst h
    show (foldL s.data.toList).toArray.size ≤ s.size
    rw [List.size_toArray, fold_length, e2]; exact Nat.le_refl _
  · split at h
    · split at h
      · cases h
      · simp only [List.mem_singleton] at h; subst h; exact Nat.le_refl _
    · split at h
      · unfold gramsF at h; split at h
        · simp only [List.mem_singleton] at h; subst h; exact Nat.le_refl _
        · rw [List.mem_map] at h; obtain ⟨i, _, rfl⟩ := h; exact e1 _ _
      · split at h
        · unfold gramsF at h; split at h
          · simp only [List.mem_singleton] at h; subst h; exact Nat.le_refl _
          · rw [List.mem_map] at h; obtain ⟨i, _, rfl⟩ := h; exact e1 _ _
        · split at h
          · unfold shortF at h; split at h
            · simp only [List.mem_singleton] at h; subst h; exact e1 _ _
            · simp only [List.mem_singleton] at h; subst h; exact Nat.le_refl _
          · unfold marksF at h; split at h
            · cases h
            · simp only [List.mem_singleton] at h; subst h
              show (unmarkTo s.data.toList (nR s.data.toList)).toArray.size ≤ s.size
              have := unmarkTo_len s.data.toList (nR s.data.toList) (Nat.le_refl _)
              rw [posAt_end, e2] at this
              rw [List.size_toArray]; exact this
/-- A property of tokens that each filter keeps is kept by a link. -/
theorem linkGo_all {p : TokD → Prop} {n : Int} (hp : ∀ t x, p t → x ∈ oneF n t.text → p { t with text := x }) : ∀ (l acc ts : List TokD), (∀ t ∈ l, p t) → (∀ t ∈ acc, p t) → linkGo n l acc = some ts → ∀ t ∈ ts, p t
  | [], acc, ts, _, ha, e => by unfold linkGo at e; cases e; exact ha
  | t :: l, acc, ts, hl, ha, e => by
    unfold linkGo at e
    split at e
    · cases e
    · refine linkGo_all hp l _ ts (fun x hx => hl x (List.mem_cons_of_mem _ hx)) (fun x hx => ?_) e
      rcases List.mem_append.1 hx with hx | hx
      · exact ha x hx
      · unfold oneT at hx
        rw [List.mem_map] at hx
        obtain ⟨y, hy, rfl⟩ := hx
        exact hp t y (hl t (by simp)) hy
theorem link_all {p : TokD → Prop} {n : Int} {l ts : List TokD} (hp : ∀ t x, p t → x ∈ oneF n t.text → p { t with text := x }) (hl : ∀ t ∈ l, p t) (e : linkF n l = some ts) : ∀ t ∈ ts, p t := linkGo_all hp l [] ts hl (fun t h => by cases h) e
theorem linkGo_len4 (n : Int) : ∀ (l acc ts : List TokD), acc.length ≤ 4096 → linkGo n l acc = some ts → ts.length ≤ 4096
  | [], acc, ts, h, e => by unfold linkGo at e; cases e; exact h
  | t :: l, acc, ts, h, e => by
    unfold linkGo at e
    split at e
    · cases e
    · exact linkGo_len4 n l _ ts (by omega) e
theorem linkF_len4 {n : Int} {l ts : List TokD} (e : linkF n l = some ts) : ts.length ≤ 4096 := linkGo_len4 n l [] ts (by simp) e
theorem tokensF_size (n : Int) (s : ByteArray) (t : TokD) (h : t ∈ tokensF n s) : t.text.size ≤ s.size := by
  unfold tokensF tokOf at h
  rw [List.mem_mapIdx] at h
  obtain ⟨i, hi, rfl⟩ := h
  show (s.extract _ _).size ≤ s.size
  rw [ByteArray.size_extract]; omega
theorem tokensF_len (n : Int) (s : ByteArray) : (tokensF n s).length ≤ s.size := by
  unfold tokensF
  rw [tokOf_len]
  have h1 := cutF_len n (runeL s.data.toList)
  have h2 := nR_le s.data.toList
  have e2 : s.data.toList.length = s.size := by simp
  rw [runeL_len] at h1; omega
end AnaP
end
section
namespace AnaP
open Go.Lib Go FoldP

/-! ### The decoder on a text that is cut short -/
def D2 (N b0 b1 : Nat) : Prop := b0 / 32 = 6 ∧ 1 < N ∧ b1 / 64 = 2 ∧ 128 ≤ b0 % 32 * 64 + b1 % 64
def ok3 (v : Nat) : Prop := v < 55296 ∨ (57344 ≤ v ∧ v ≤ 1114111)
def D3 (N b0 b1 b2 : Nat) : Prop := b0 / 16 = 14 ∧ 2 < N ∧ b1 / 64 = 2 ∧ b2 / 64 = 2 ∧ 2048 ≤ b0 % 16 * 4096 + b1 % 64 * 64 + b2 % 64 ∧ ok3 (b0 % 16 * 4096 + b1 % 64 * 64 + b2 % 64)
def D4 (N b0 b1 b2 b3 : Nat) : Prop := b0 / 8 = 30 ∧ 3 < N ∧ b1 / 64 = 2 ∧ b2 / 64 = 2 ∧ b3 / 64 = 2 ∧ 65536 ≤ b0 % 8 * 262144 + b1 % 64 * 4096 + b2 % 64 * 64 + b3 % 64 ∧ ok3 (b0 % 8 * 262144 + b1 % 64 * 4096 + b2 % 64 * 64 + b3 % 64)
theorem of_D1 {N b0 b1 b2 b3 : Nat} (h : b0 < 128) : decodeN N b0 b1 b2 b3 = (b0, 1) := by unfold decodeN; rw [if_pos h]
theorem of_D2 {N b0 b1 b2 b3 : Nat} (h : D2 N b0 b1) : decodeN N b0 b1 b2 b3 = (b0 % 32 * 64 + b1 % 64, 2) := by
  obtain ⟨h1, h2, h3, h4⟩ := h
  unfold decodeN; rw [if_neg (by omega), if_pos ⟨h1, h2, h3⟩, if_pos h4]
theorem of_D3 {N b0 b1 b2 b3 : Nat} (h : D3 N b0 b1 b2) : decodeN N b0 b1 b2 b3 = (b0 % 16 * 4096 + b1 % 64 * 64 + b2 % 64, 3) := by
  obtain ⟨h1, h2, h3, h4, h5, h6⟩ := h
  unfold decodeN; rw [if_neg (by omega), if_neg (by omega), if_pos ⟨h1, ⟨by omega, h3⟩, h2, h4⟩, if_pos ⟨h5, h6⟩]
theorem of_D4 {N b0 b1 b2 b3 : Nat} (h : D4 N b0 b1 b2 b3) : decodeN N b0 b1 b2 b3 = (b0 % 8 * 262144 + b1 % 64 * 4096 + b2 % 64 * 64 + b3 % 64, 4) := by
  obtain ⟨h1, h2, h3, h4, h5, h6, h7⟩ := h
  unfold decodeN; rw [if_neg (by omega), if_neg (by omega), if_neg (by omega), if_pos ⟨h1, ⟨by omega, h3⟩, ⟨by omega, h4⟩, h2, h5⟩, if_pos ⟨h6, h7⟩]
theorem of_D0 {N b0 b1 b2 b3 : Nat} (h : 128 ≤ b0) (h2 : ¬ D2 N b0 b1) (h3 : ¬ D3 N b0 b1 b2) (h4 : ¬ D4 N b0 b1 b2 b3) : decodeN N b0 b1 b2 b3 = (65533, 1) := by
  unfold decodeN; rw [if_neg (by omega)]
  by_cases c2 : b0 / 32 = 6 ∧ (1 < N ∧ b1 / 64 = 2)
  · rw [if_pos c2, if_neg (fun e => h2 ⟨c2.1, c2.2.1, c2.2.2, e⟩)]
  · rw [if_neg c2]
    by_cases c3 : b0 / 16 = 14 ∧ (1 < N ∧ b1 / 64 = 2) ∧ (2 < N ∧ b2 / 64 = 2)
    · rw [if_pos c3, if_neg (fun e => h3 ⟨c3.1, c3.2.2.1, c3.2.1.2, c3.2.2.2, e.1, e.2⟩)]
    · rw [if_neg c3]
      by_cases c4 : b0 / 8 = 30 ∧ (1 < N ∧ b1 / 64 = 2) ∧ (2 < N ∧ b2 / 64 = 2) ∧ (3 < N ∧ b3 / 64 = 2)
      · rw [if_pos c4, if_neg (fun e => h4 ⟨c4.1, c4.2.2.2.1, c4.2.1.2, c4.2.2.1.2, c4.2.2.2.2, e.1, e.2⟩)]
      · rw [if_neg c4]
/-- Two readings are one where the forms are. -/
theorem decodeN_same {N M b0 b1 b2 b3 c1 c2 c3 : Nat} (h2 : D2 N b0 b1 → D2 M b0 c1 ∧ b1 = c1) (h3 : D3 N b0 b1 b2 → D3 M b0 c1 c2 ∧ b1 = c1 ∧ b2 = c2) (h4 : D4 N b0 b1 b2 b3 → D4 M b0 c1 c2 c3 ∧ b1 = c1 ∧ b2 = c2 ∧ b3 = c3)
    (k2 : D2 M b0 c1 → D2 N b0 b1) (k3 : D3 M b0 c1 c2 → D3 N b0 b1 b2) (k4 : D4 M b0 c1 c2 c3 → D4 N b0 b1 b2 b3) : decodeN N b0 b1 b2 b3 = decodeN M b0 c1 c2 c3 := by
  by_cases a1 : b0 < 128
  · rw [of_D1 a1, of_D1 a1]
  · by_cases a2 : D2 N b0 b1
    · obtain ⟨e, rfl⟩ := h2 a2
      rw [of_D2 a2, of_D2 e]
    · by_cases a3 : D3 N b0 b1 b2
      · obtain ⟨e, rfl, rfl⟩ := h3 a3
        rw [of_D3 a3, of_D3 e]
      · by_cases a4 : D4 N b0 b1 b2 b3
        · obtain ⟨e, rfl, rfl, rfl⟩ := h4 a4
          rw [of_D4 a4, of_D4 e]
        · rw [of_D0 (by omega) a2 a3 a4, of_D0 (by omega) (fun h => a2 (k2 h)) (fun h => a3 (k3 h)) (fun h => a4 (k4 h))]
theorem decodeN_cut (N M n b0 b1 b2 b3 c1 c2 c3 : Nat) (hM : M = min n N) (e1 : 1 < n → c1 = b1) (e2 : 2 < n → c2 = b2) (e3 : 3 < n → c3 = b3) (h : (decodeN N b0 b1 b2 b3).2 ≤ n) : decodeN M b0 c1 c2 c3 = decodeN N b0 b1 b2 b3 := by
  refine (decodeN_same (fun a => ?_) (fun a => ?_) (fun a => ?_) (fun a => ?_) (fun a => ?_) (fun a => ?_)).symm
  · rw [of_D2 a] at h
    obtain rfl := e1 h
    unfold D2 at *; exact ⟨⟨a.1, by have := a.2.1; dsimp only at h; omega, a.2.2⟩, rfl⟩
  · rw [of_D3 a] at h
    dsimp only at h
    obtain rfl := e1 (by omega)
    obtain rfl := e2 (by omega)
    unfold D3 at *; exact ⟨⟨a.1, by have := a.2.1; omega, a.2.2⟩, rfl, rfl⟩
  · rw [of_D4 a] at h
    dsimp only at h
    obtain rfl := e1 (by omega)
    obtain rfl := e2 (by omega)
    obtain rfl := e3 (by omega)
    unfold D4 at *; exact ⟨⟨a.1, by have := a.2.1; omega, a.2.2⟩, rfl, rfl, rfl⟩
  · have := a.2.1
    obtain rfl := e1 (by omega)
    exact ⟨a.1, by omega, a.2.2⟩
  · have := a.2.1
    obtain rfl := e1 (by omega)
    obtain rfl := e2 (by omega)
    exact ⟨a.1, by omega, a.2.2⟩
  · have := a.2.1
    obtain rfl := e1 (by omega)
    obtain rfl := e2 (by omega)
    obtain rfl := e3 (by omega)
    exact ⟨a.1, by omega, a.2.2⟩
/-- Behind k bytes comes one that is no continuation byte, or nothing. -/
theorem decodeN_stop (N k b0 b1 b2 b3 c1 c2 c3 : Nat) (hk : 1 ≤ k) (e1 : 1 < k → c1 = b1) (e2 : 2 < k → c2 = b2) (e3 : 3 < k → c3 = b3) (hN : k < N) (s1 : k = 1 → b1 / 64 ≠ 2) (s2 : k = 2 → b2 / 64 ≠ 2) (s3 : k = 3 → b3 / 64 ≠ 2) : decodeN N b0 b1 b2 b3 = decodeN k b0 c1 c2 c3 := by
  refine decodeN_same (fun a => ?_) (fun a => ?_) (fun a => ?_) (fun a => ?_) (fun a => ?_) (fun a => ?_)
  · obtain ⟨a1, a2, a3, a4⟩ := a
    have k2 : 2 ≤ k := by
      rcases Nat.lt_or_ge 1 k with h | h
      · exact h
      · exact absurd a3 (s1 (by omega))
    obtain rfl := e1 (by omega)
    exact ⟨⟨a1, by omega, a3, a4⟩, rfl⟩
  · obtain ⟨a1, a2, a3, a4, a5⟩ := a
    have k3 : 3 ≤ k := by
      rcases (show k = 1 ∨ k = 2 ∨ 3 ≤ k by omega) with h | h | h
      · exact absurd a3 (s1 h)
      · exact absurd a4 (s2 h)
      · exact h
    obtain rfl := e1 (by omega)
    obtain rfl := e2 (by omega)
    exact ⟨⟨a1, by omega, a3, a4, a5⟩, rfl, rfl⟩
  · obtain ⟨a1, a2, a3, a4, a5, a6⟩ := a
    have k3 : 4 ≤ k := by
      rcases (show k = 1 ∨ k = 2 ∨ k = 3 ∨ 4 ≤ k by omega) with h | h | h | h
      · exact absurd a3 (s1 h)
      · exact absurd a4 (s2 h)
      · exact absurd a5 (s3 h)
      · exact h
    obtain rfl := e1 (by omega)
    obtain rfl := e2 (by omega)
    obtain rfl := e3 (by omega)
    exact ⟨⟨a1, by omega, a3, a4, a5, a6⟩, rfl, rfl, rfl⟩
  · have := a.2.1
    obtain rfl := e1 (by omega)
    exact ⟨a.1, by omega, a.2.2⟩
  · have := a.2.1
    obtain rfl := e1 (by omega)
    obtain rfl := e2 (by omega)
    exact ⟨a.1, by omega, a.2.2⟩
  · have := a.2.1
    obtain rfl := e1 (by omega)
    obtain rfl := e2 (by omega)
    obtain rfl := e3 (by omega)
    exact ⟨a.1, by omega, a.2.2⟩
theorem getD_take_lt {l : List UInt8} {n i : Nat} (h : i < n) : (l.take n).getD i 0 = l.getD i 0 := by
  rw [List.getD_eq_getElem?_getD, List.getD_eq_getElem?_getD, List.getElem?_take, if_pos h]
theorem getD_take_ge {l : List UInt8} {n i : Nat} (h : n ≤ i) : (l.take n).getD i 0 = 0 := by
  rw [List.getD_eq_getElem?_getD, List.getElem?_take, if_neg (by omega)]; rfl
theorem decodeL_take (l : List UInt8) (n : Nat) (hn : (decodeL l).2 ≤ n) : decodeL (l.take n) = decodeL l := by
  have h1 := decodeL_width l
  have h0 : 0 < n := Nat.lt_of_lt_of_le h1 hn
  rw [decodeL_N] at hn
  rw [decodeL_N (l.take n), decodeL_N l, List.length_take, getD_take_lt h0]
  exact decodeN_cut _ _ n _ _ _ _ _ _ _ rfl (fun h => by rw [getD_take_lt h]) (fun h => by rw [getD_take_lt h]) (fun h => by rw [getD_take_lt h]) hn

/-! ### The runes of a piece -/
/-- A piece of a text, between two of its runes. -/
def subL (l : List UInt8) (a b : Nat) : List UInt8 := (l.drop (posAt l a)).take (posAt l b - posAt l a)
theorem subL_len (l : List UInt8) (a b : Nat) : (subL l a b).length = posAt l b - posAt l a := by
  have := posAt_le l b
  simp [subL]; omega
theorem subL_drop (l : List UInt8) (a b k : Nat) : (subL l a b).drop k = (l.drop (posAt l a + k)).take (posAt l b - posAt l a - k) := by
  unfold subL; rw [List.drop_take, List.drop_drop]
/-- What is left of a piece, from its rune i on. -/
theorem runes_sub (l : List UInt8) (a b : Nat) (hab : a ≤ b) (hb : b ≤ nR l) : ∀ (f i : Nat), b - i ≤ f → a ≤ i → i ≤ b →
    (runesFrom (posAt l i - posAt l a) ((subL l a b).drop (posAt l i - posAt l a))).map (·.1) = ((List.range (b - i)).map fun k => posAt l (i + k) - posAt l a)
  | 0, i, hf, hi, hib => by
    obtain rfl : i = b := by omega
    rw [runesEnd _ _ (by rw [subL_len]; exact Nat.le_refl _)]; simp
  | f + 1, i, hf, hi, hib => by
    rcases Nat.lt_or_ge i b with h | h
    · have h1 := posAt_mono l a i hi (by omega)
      obtain ⟨h2, h3⟩ := posAt_next l i (by omega)
      have h4 := posAt_step l i (by omega)
      have h5 := posAt_mono l (i + 1) b (by omega) hb
      have e : (subL l a b).drop (posAt l i - posAt l a) = (l.drop (posAt l i)).take (posAt l b - posAt l i) := by
        rw [subL_drop, show posAt l a + (posAt l i - posAt l a) = posAt l i by omega, show posAt l b - posAt l a - (posAt l i - posAt l a) = posAt l b - posAt l i by omega]
      have hd : decodeL ((subL l a b).drop (posAt l i - posAt l a)) = decodeL (l.drop (posAt l i)) := by
        rw [e]; exact decodeL_take _ _ (by omega)
      rw [runesAt _ _ (by rw [subL_len]; omega), hd, List.map_cons]
      have ih := runes_sub l a b hab hb f (i + 1) (by omega) (by omega) (by omega)
      rw [show posAt l i - posAt l a + (decodeL (l.drop (posAt l i))).2 = posAt l (i + 1) - posAt l a by omega, ih]
      rw [show b - i = (b - (i + 1)) + 1 by omega, List.range_succ_eq_map, List.map_cons, List.map_map]
      simp only [Nat.add_zero, List.cons.injEq, true_and]
      apply List.map_congr_left
      intro k _
      simp only [Function.comp_apply]
      congr 2; omega
    · obtain rfl : i = b := by omega
      rw [runesEnd _ _ (by rw [subL_len]; exact Nat.le_refl _)]; simp
theorem sub_runes (l : List UInt8) (a b : Nat) (hab : a ≤ b) (hb : b ≤ nR l) : (runesL (subL l a b)).map (·.1) = (List.range (b - a)).map fun k => posAt l (a + k) - posAt l a := by
  have := runes_sub l a b hab hb (b - a) a (Nat.le_refl _) (Nat.le_refl _) hab
  rw [Nat.sub_self, List.drop_zero] at this
  exact this
theorem sub_nR (l : List UInt8) (a b : Nat) (hab : a ≤ b) (hb : b ≤ nR l) : nR (subL l a b) = b - a := by
  have := congrArg List.length (sub_runes l a b hab hb)
  simpa [nR] using this
theorem sub_posAt (l : List UInt8) (a b : Nat) (hab : a ≤ b) (hb : b ≤ nR l) (i : Nat) (hi : i ≤ b - a) : posAt (subL l a b) i = posAt l (a + i) - posAt l a := by
  have hn := sub_nR l a b hab hb
  rcases Nat.lt_or_ge i (b - a) with h | h
  · have h1 := runes_get (subL l a b) i (by omega)
    have h2 : ((runesL (subL l a b)).map (·.1))[i]? = some (posAt (subL l a b) i) := by rw [List.getElem?_map, h1]; rfl
    rw [sub_runes l a b hab hb, List.getElem?_map, List.getElem?_range h] at h2
    exact (Option.some.inj h2).symm
  · obtain rfl : i = b - a := by omega
    have h1 := posAt_end (subL l a b)
    rw [hn, subL_len] at h1
    rw [h1, show a + (b - a) = b by omega]
theorem extract_list (s : ByteArray) (x y : Nat) (hy : y ≤ s.size) : (s.extract x y).data.toList = (s.data.toList.drop x).take (y - x) := by
  rw [ByteArray.data_extract, Array.toList_extract, List.extract_eq_take_drop]
/-- A piece of a piece. -/
theorem extract_sub (s : ByteArray) (a b x y : Nat) (hxy : x ≤ y) (hy : a + y ≤ b) (hb : b ≤ s.size) : (s.extract a b).extract x y = s.extract (a + x) (a + y) := by
  apply ByteArray.ext
  rw [ByteArray.data_extract, ByteArray.data_extract, ByteArray.data_extract, Array.extract_extract]
  congr 1; omega
/-- The piece's own runes and text. -/
theorem sub_text (s : ByteArray) (a b : Nat) (hb : b ≤ nR s.data.toList) : (s.extract (posAt s.data.toList a) (posAt s.data.toList b)).data.toList = subL s.data.toList a b := by
  have := posAt_le s.data.toList b
  rw [extract_list _ _ _ (by simpa using this)]; rfl

/-! ### Two texts with a blank between -/
theorem getD_app_lt {x y : List UInt8} {i : Nat} (h : i < x.length) : (x ++ y).getD i 0 = x.getD i 0 := by
  rw [List.getD_eq_getElem?_getD, List.getD_eq_getElem?_getD, List.getElem?_append_left h]
theorem getD_app_at {x y : List UInt8} {i : Nat} (h : i = x.length) : (x ++ 32 :: y).getD i 0 = 32 := by
  subst h
  rw [List.getD_eq_getElem?_getD, List.getElem?_append_right (Nat.le_refl _), Nat.sub_self]; rfl
theorem decodeL_blank (x y : List UInt8) (hx : x ≠ []) : decodeL (x ++ 32 :: y) = decodeL x := by
  have hl : 0 < x.length := List.length_pos_iff.2 hx
  have z : (32 : UInt8).toNat / 64 ≠ 2 := by decide
  rw [decodeL_N, decodeL_N x, List.length_append, List.length_cons, getD_app_lt (i := 0) hl]
  exact decodeN_stop _ x.length _ _ _ _ _ _ _ hl (fun h => by rw [getD_app_lt h]) (fun h => by rw [getD_app_lt h]) (fun h => by rw [getD_app_lt h]) (by omega)
    (fun h => by rw [getD_app_at h.symm]; exact z) (fun h => by rw [getD_app_at h.symm]; exact z) (fun h => by rw [getD_app_at h.symm]; exact z)
theorem runesFrom_shift : ∀ (f p : Nat) (l : List UInt8), l.length ≤ f → runesFrom p l = (runesL l).map fun x => (p + x.1, x.2)
  | 0, p, l, h => by
    have : l = [] := List.eq_nil_of_length_eq_zero (by omega)
    subst this; rfl
  | f + 1, p, l, h => by
    by_cases hne : l = []
    · subst hne; rfl
    · have hw := decodeL_width l
      have hl : 0 < l.length := List.length_pos_iff.2 hne
      unfold runesL
      rw [runesFrom_step p l hne, runesFrom_step 0 l hne, List.map_cons]
      rw [runesFrom_shift f (p + (decodeL l).2) _ (by rw [List.length_drop]; omega), runesFrom_shift f (0 + (decodeL l).2) _ (by rw [List.length_drop]; omega), List.map_map]
      simp only [Nat.add_zero, List.cons.injEq, true_and]
      apply List.map_congr_left
      intro x _
      simp only [Function.comp_apply, Prod.mk.injEq, and_true]; omega
theorem runesFrom_blank : ∀ (f p : Nat) (x y : List UInt8), x.length ≤ f → runesFrom p (x ++ 32 :: y) = runesFrom p x ++ (p + x.length, 32) :: runesFrom (p + x.length + 1) y
  | 0, p, x, y, h => by
    have : x = [] := List.eq_nil_of_length_eq_zero (by omega)
    subst this
    have hd : decodeL ((32 : UInt8) :: y) = (32, 1) := decodeL_ascii 32 y (by decide)
    rw [List.nil_append, runesFrom_step p _ (by simp), hd]; rfl
  | f + 1, p, x, y, h => by
    by_cases hne : x = []
    · subst hne
      have hd : decodeL ((32 : UInt8) :: y) = (32, 1) := decodeL_ascii 32 y (by decide)
      rw [List.nil_append, runesFrom_step p _ (by simp), hd]; rfl
    · have hw := decodeL_width x
      have hl := decodeL_le x hne
      rw [runesFrom_step p _ (by simp), decodeL_blank x y hne, List.drop_append_of_le_length hl, runesFrom_blank f _ _ y (by rw [List.length_drop]; omega), runesFrom_step p x hne, List.length_drop]
      rw [List.cons_append, show p + (decodeL x).2 + (x.length - (decodeL x).2) = p + x.length by omega]
theorem runesL_blank (x y : List UInt8) : runesL (x ++ 32 :: y) = runesL x ++ (x.length, 32) :: (runesL y).map fun z => (x.length + 1 + z.1, z.2) := by
  unfold runesL
  rw [runesFrom_blank x.length 0 x y (Nat.le_refl _), runesFrom_shift y.length (0 + x.length + 1) y (Nat.le_refl _), Nat.zero_add]; rfl
theorem runeL_blank (x y : List UInt8) : runeL (x ++ 32 :: y) = runeL x ++ 32 :: runeL y := by
  unfold runeL
  rw [runesL_blank, List.map_append, List.map_cons, List.map_map]; rfl
theorem nR_blank (x y : List UInt8) : nR (x ++ 32 :: y) = nR x + 1 + nR y := by
  unfold nR; rw [runesL_blank]; simp; omega
theorem posAt_of (l : List UInt8) (i : Nat) {p : Nat} (h : (posL l)[i]? = some p) : posAt l i = p := by
  unfold posAt; rw [List.getD_eq_getElem?_getD, h]; rfl
theorem posL_blank (x y : List UInt8) : posL (x ++ 32 :: y) = (runesL x).map (·.1) ++ x.length :: (posL y).map (x.length + 1 + ·) := by
  unfold posL posFrom
  rw [List.drop_zero, List.drop_zero, show runesFrom 0 (x ++ 32 :: y) = runesL (x ++ 32 :: y) from rfl, runesL_blank, List.map_append, List.map_cons, List.map_map]
  simp only [List.append_assoc, List.cons_append, List.map_append, List.map_map, List.map_cons, List.map_nil, List.length_append, List.length_cons, List.append_cancel_left_eq, List.cons.injEq, true_and]
  rw [show x.length + (y.length + 1) = x.length + 1 + y.length by omega]; rfl
theorem posAt_blank_l (x y : List UInt8) (i : Nat) (h : i ≤ nR x) : posAt (x ++ 32 :: y) i = posAt x i := by
  refine posAt_of _ _ ?_
  rw [posL_blank]
  rcases Nat.lt_or_ge i (nR x) with h1 | h1
  · rw [List.getElem?_append_left (by simpa [nR] using h1), List.getElem?_map, runes_get x i h1]; rfl
  · obtain rfl : i = nR x := by omega
    rw [List.getElem?_append_right (by simp [nR]), posAt_end]; simp [nR]
theorem posAt_blank_r (x y : List UInt8) (i : Nat) (h : i ≤ nR y) : posAt (x ++ 32 :: y) (nR x + 1 + i) = x.length + 1 + posAt y i := by
  refine posAt_of _ _ ?_
  have hl : ((runesL x).map (·.1)).length = nR x := by simp [nR]
  rw [posL_blank, List.getElem?_append_right (by omega), hl, show nR x + 1 + i - nR x = i + 1 by omega, List.getElem?_cons_succ, List.getElem?_map, posAt_get y i h]; rfl
theorem runIx_shift (may begins : Int → Bool) (d : Nat) : ∀ (l : List Int) (j : Nat) (fr : Option Nat), runIx may begins l (j + d) (fr.map (· + d)) = (runIx may begins l j fr).map fun c => (c.1 + d, c.2 + d)
  | [], j, none => rfl
  | [], j, some a => rfl
  | r :: l, j, none => by
    have h1 := runIx_shift may begins d l (j + 1) (some j)
    have h2 := runIx_shift may begins d l (j + 1) none
    rw [show j + 1 + d = j + d + 1 by omega] at h1 h2
    simp only [runIx, Option.map_none, Option.map_some] at *
    split
    · exact h1
    · exact h2
  | r :: l, j, some a => by
    have h1 := runIx_shift may begins d l (j + 1) (some a)
    have h2 := runIx_shift may begins d l (j + 1) none
    rw [show j + 1 + d = j + d + 1 by omega] at h1 h2
    simp only [runIx, Option.map_none, Option.map_some] at *
    split
    · exact h1
    · rw [h2]; rfl
theorem runIx_blank (may begins : Int → Bool) (hm : may 32 = false) : ∀ (x y : List Int) (j : Nat) (fr : Option Nat), runIx may begins (x ++ 32 :: y) j fr = runIx may begins x j fr ++ runIx may begins y (j + x.length + 1) none
  | [], y, j, none => by simp [runIx, hm]
  | [], y, j, some a => by simp [runIx, hm]
  | r :: x, y, j, none => by
    have h1 := runIx_blank may begins hm x y (j + 1) (some j)
    have h2 := runIx_blank may begins hm x y (j + 1) none
    simp only [List.cons_append, runIx, List.length_cons] at *
    rw [show j + (x.length + 1) + 1 = j + 1 + x.length + 1 by omega]
    split
    · exact h1
    · exact h2
  | r :: x, y, j, some a => by
    have h1 := runIx_blank may begins hm x y (j + 1) (some a)
    have h2 := runIx_blank may begins hm x y (j + 1) none
    simp only [List.cons_append, runIx, List.length_cons] at *
    rw [show j + (x.length + 1) + 1 = j + 1 + x.length + 1 by omega]
    split
    · exact h1
    · rw [h2]; rfl
end AnaP
end
section
namespace AnaP
open Go.Lib Go FoldP

/-! ### Where tokens lie -/
def Le (x y : TokD) : Prop := x.pos ≤ y.pos ∧ x.frm ≤ y.frm
def PlaceOk (n : Nat) (ts : List TokD) : Prop := (∀ t ∈ ts, 0 ≤ t.frm ∧ t.frm < t.til ∧ t.til ≤ (n : Int)) ∧ ts.Pairwise Le
theorem tokOf_get (s : ByteArray) (cuts : List (Nat × Nat)) (i : Nat) (h : i < (tokOf s cuts).length) : (tokOf s cuts)[i] = tokAt s i (cuts[i]'(by rw [tokOf_len] at h; exact h)) := by
  simp [tokOf]
theorem posAt_lt (l : List UInt8) (i j : Nat) (h : i < j) (hj : j ≤ nR l) : posAt l i < posAt l j := by
  have h1 := posAt_step l i (by omega)
  have h2 := posAt_mono l (i + 1) j (by omega) hj
  omega
theorem place_tokens (n : Int) (s : ByteArray) : PlaceOk s.size (tokensF n s) := by
  have hc := cutF_ok n (runeL s.data.toList)
  rw [runeL_len] at hc
  unfold tokensF
  generalize cutF n (runeL s.data.toList) = cuts at *
  refine ⟨fun t ht => ?_, ?_⟩
  · obtain ⟨i, hi, rfl⟩ := List.mem_iff_getElem.1 ht
    rw [tokOf_get]
    have hi' : i < cuts.length := by rwa [tokOf_len] at hi
    obtain ⟨h1, h2⟩ := hc.1 cuts[i] (List.getElem_mem hi')
    have h3 := posAt_lt s.data.toList _ _ h1 h2
    have h4 := posAt_le s.data.toList cuts[i].2
    have e2 : s.data.toList.length = s.size := by simp
    unfold tokAt
    dsimp only
    omega
  · rw [List.pairwise_iff_getElem]
    intro i j hi hj hij
    rw [tokOf_get, tokOf_get]
    have hi' : i < cuts.length := by rwa [tokOf_len] at hi
    have hj' : j < cuts.length := by rwa [tokOf_len] at hj
    have h1 := (List.pairwise_iff_getElem.1 hc.2) i j hi' hj' hij
    have h2 := hc.1 cuts[j] (List.getElem_mem hj')
    have h3 := posAt_mono s.data.toList _ _ h1 (by omega)
    unfold Le tokAt
    dsimp only
    omega
theorem oneT_same {n : Int} {t x : TokD} (h : x ∈ oneT n t) : x.pos = t.pos ∧ x.frm = t.frm := by
  unfold oneT at h
  rw [List.mem_map] at h
  obtain ⟨y, _, rfl⟩ := h
  exact ⟨rfl, rfl⟩
theorem linkGo_pair (n : Int) : ∀ (l acc ts : List TokD), l.Pairwise Le → acc.Pairwise Le → (∀ x ∈ acc, ∀ y ∈ l, Le x y) → linkGo n l acc = some ts → ts.Pairwise Le
  | [], acc, ts, _, ha, _, e => by unfold linkGo at e; cases e; exact ha
  | t :: l, acc, ts, hl, ha, hx, e => by
    rw [List.pairwise_cons] at hl
    unfold linkGo at e
    split at e
    · cases e
    · refine linkGo_pair n l _ ts hl.2 ?_ ?_ e
      · refine List.pairwise_append.2 ⟨ha, ?_, fun x h1 y h2 => ?_⟩
        · rw [List.pairwise_iff_getElem]
          intro i j hi hj _
          have h1 := oneT_same (List.getElem_mem hi)
          have h2 := oneT_same (List.getElem_mem hj)
          unfold Le; omega
        · have h3 := oneT_same h2
          have h4 := hx x h1 t (by simp)
          unfold Le at *; omega
      · intro x h1 y h2
        rcases List.mem_append.1 h1 with h1 | h1
        · exact hx x h1 y (List.mem_cons_of_mem _ h2)
        · have h3 := oneT_same h1
          have h4 := hl.1 y h2
          unfold Le at *; omega
theorem place_link {n : Int} {m : Nat} {l ts : List TokD} (h : PlaceOk m l) (e : linkF n l = some ts) : PlaceOk m ts :=
  ⟨link_all (p := fun t => 0 ≤ t.frm ∧ t.frm < t.til ∧ t.til ≤ (m : Int)) (fun _ _ h _ => h) h.1 e, linkGo_pair n l [] ts h.2 List.Pairwise.nil (fun x hx => by cases hx) e⟩
theorem linkAll_cases : ∀ (ns : List Int) (t : List TokD), (linkAll ns t).2 = 0 ∨ linkAll ns t = ([], 84)
  | [], t => .inl rfl
  | n :: ns, t => by
    unfold linkAll
    split
    · exact .inr rfl
    · exact linkAll_cases ns _
theorem linkAll_all {p : List TokD → Prop} (hp : ∀ n l ts, p l → linkF n l = some ts → p ts) : ∀ (ns : List Int) (t : List TokD), p t → (linkAll ns t).2 = 0 → p (linkAll ns t).1
  | [], t, h, _ => h
  | n :: ns, t, h, e => by
    unfold linkAll at e ⊢
    split at e
    · cases e
    · rename_i t' he
      exact linkAll_all hp ns _ (hp n t t' h he) e
theorem runF_cases (c : List Int) (s : ByteArray) : (runF c s).2 = 0 ∨ (runF c s).1 = [] := by
  unfold runF
  split
  · exact .inr rfl
  · split
    · exact .inr rfl
    · split
      · exact .inr rfl
      · rcases linkAll_cases c.tail (tokensF (c.getD 0 0) s) with h | h
        · exact .inl h
        · rw [h]; exact .inr rfl
theorem runF_val (c : List Int) (s : ByteArray) : (runF c s).2 = 0 ∨ (runF c s).2 = 60 ∨ (runF c s).2 = 3 ∨ (runF c s).2 = 84 := by
  unfold runF
  split
  · simp
  · split
    · simp
    · split
      · simp
      · rcases linkAll_cases c.tail (tokensF (c.getD 0 0) s) with h | h
        · rw [h]; simp
        · rw [h]; simp
theorem runF_all {p : List TokD → Prop} (hp : ∀ n l ts, p l → linkF n l = some ts → p ts) (c : List Int) (s : ByteArray) (h0 : s.size ≤ 4096 → (tokensF (c.getD 0 0) s).length ≤ 4096 → p (tokensF (c.getD 0 0) s)) (e : (runF c s).2 = 0) : p (runF c s).1 := by
  unfold runF at e ⊢
  split at e
  · cases e
  · split at e
    · cases e
    · split at e
      · cases e
      · rename_i h1 h2 h3
        rw [if_neg h1, if_neg h2, if_neg h3]
        exact linkAll_all hp _ _ (h0 (by omega) (by omega)) e
theorem runF_places (c : List Int) (s : ByteArray) (e : (runF c s).2 = 0) : PlaceOk s.size (runF c s).1 :=
  runF_all (p := PlaceOk s.size) (fun n l ts h e => place_link h e) c s (fun _ _ => place_tokens _ s) e
theorem runF_len (c : List Int) (s : ByteArray) : (runF c s).1.length ≤ 4096 := by
  rcases runF_cases c s with h | h
  · exact runF_all (p := fun l => l.length ≤ 4096) (fun n l ts _ e => linkF_len4 e) c s (fun _ h => h) h
  · rw [h]; simp
theorem runF_text (c : List Int) (s : ByteArray) : ∀ t ∈ (runF c s).1, t.text.size ≤ 4096 := by
  rcases runF_cases c s with h | h
  · exact runF_all (p := fun l => ∀ t ∈ l, t.text.size ≤ 4096) (fun n l ts h e => link_all (p := fun t => t.text.size ≤ 4096) (fun t x h1 h2 => by have := one_size n t.text x h2; exact Nat.le_trans this h1) h e) c s
      (fun h4 _ t ht => by have := tokensF_size _ s t ht; omega) h
  · rw [h]; simp
/-- A chain of a tokenizer alone. -/
theorem runF_one (n : Int) (h1 : 1 ≤ n) (h2 : n ≤ 4) (s : ByteArray) (hs : s.size ≤ 4096) : runF [n] s = (tokensF n s, 0) := by
  have hl := tokensF_len n s
  have hc : checkB [n] = true := by simp [checkB, checkGo, h1, h2]
  unfold runF
  rw [hc, if_neg (by simp), if_neg (by omega), if_neg (by simp only [List.getD_cons_zero]; omega)]
  rfl
theorem runF_single (c : List Int) (s : ByteArray) (hc : c.length = 1) (e : (runF c s).2 = 0) : (runF c s).1 = tokensF (c.getD 0 0) s := by
  match c, hc with
  | [n], _ =>
    unfold runF at e ⊢
    split at e
    · cases e
    · split at e
      · cases e
      · split at e
        · cases e
        · rename_i h1 h2 h3
          rw [if_neg h1, if_neg h2, if_neg h3]; rfl
theorem tokens_text (n : Int) (s : ByteArray) (i : Nat) (h : i < (tokensF n s).length) : ∃ a b : Nat, a ≤ b ∧ b ≤ s.size ∧ (tokensF n s)[i].text = s.extract a b ∧ (tokensF n s)[i].pos = i ∧ (tokensF n s)[i].frm = a ∧ (tokensF n s)[i].til = b := by
  have hc := cutF_ok n (runeL s.data.toList)
  rw [runeL_len] at hc
  unfold tokensF at h ⊢
  have hi' : i < (cutF n (runeL s.data.toList)).length := by rwa [tokOf_len] at h
  have h2 := hc.1 _ (List.getElem_mem hi')
  have h3 := posAt_mono s.data.toList _ _ (Nat.le_of_lt h2.1) h2.2
  have h4 := posAt_le s.data.toList (cutF n (runeL s.data.toList))[i].2
  have e2 : s.data.toList.length = s.size := by simp
  rw [tokOf_get]
  exact ⟨_, _, h3, by omega, rfl, rfl, rfl, rfl⟩

/-! ### A chain's last link -/
def linkRet (n : Int) (l : List TokD) : List TokD × Int := match linkF n l with
  | none => ([], 84)
  | some t => (t, 0)
theorem linkAll_snoc (n : Int) : ∀ (ns : List Int) (t : List TokD), linkAll (ns ++ [n]) t = if (linkAll ns t).2 = 0 then linkRet n (linkAll ns t).1 else linkAll ns t
  | [], t => by
    simp only [List.nil_append, linkAll, if_true]
    unfold linkRet
    cases linkF n t <;> rfl
  | m :: ns, t => by
    cases hm : linkF m t with
    | none => simp only [List.cons_append, linkAll, hm]; rfl
    | some t' => simp only [List.cons_append, linkAll, hm]; exact linkAll_snoc n ns t'
theorem checkGo_app : ∀ (x y seen : List Int), checkGo seen (x ++ y) = (checkGo seen x && checkGo (seen ++ x) y)
  | [], y, seen => by simp [checkGo]
  | n :: x, y, seen => by
    rw [List.cons_append, checkGo, checkGo, checkGo_app x y, List.append_assoc, List.singleton_append]
    simp only [Bool.and_assoc]
theorem check_snoc {c : List Int} {n : Int} (hc : c ≠ []) (h : checkB (c ++ [n]) = true) : checkB c = true ∧ filterB n = true := by
  cases c with
  | nil => exact absurd rfl hc
  | cons a t =>
    simp only [List.cons_append, checkB, checkGo_app, checkGo, Bool.and_eq_true, decide_eq_true_eq, List.length_append, List.length_singleton, List.nil_append] at *
    obtain ⟨⟨⟨h1, h2⟩, h3⟩, h4, ⟨h5, _⟩, _⟩ := h
    exact ⟨⟨⟨⟨by omega, h2⟩, h3⟩, h4⟩, h5⟩
theorem runF_snoc (c : List Int) (n : Int) (s : ByteArray) (hc : c ≠ []) (h : checkB (c ++ [n]) = true) : runF (c ++ [n]) s = if (runF c s).2 = 0 then linkRet n (runF c s).1 else ([], (runF c s).2) := by
  obtain ⟨h1, _⟩ := check_snoc hc h
  cases c with
  | nil => exact absurd rfl hc
  | cons a t =>
    unfold runF
    rw [h, h1]
    simp only [Bool.true_eq_false, if_false, List.cons_append, List.getD_cons_zero, List.tail_cons]
    by_cases h2 : 4096 < s.size
    · rw [if_pos h2, if_pos h2, if_neg (by decide)]
    · rw [if_neg h2, if_neg h2]
      by_cases h3 : 4096 < (tokensF a s).length
      · rw [if_pos h3, if_pos h3, if_neg (by decide)]
      · rw [if_neg h3, if_neg h3, linkAll_snoc]
        rcases linkAll_cases t (tokensF a s) with h4 | h4
        · rw [if_pos h4, if_pos h4]
        · rw [h4]

/-! ### Two texts with a blank between -/
def shiftT (k d : Nat) (t : TokD) : TokD := { t with pos := t.pos + k, frm := t.frm + d, til := t.til + d }
def joinB (a b : ByteArray) : ByteArray := ⟨(a.data.toList ++ 32 :: b.data.toList).toArray⟩
theorem cut_blank (n : Int) (hn : n = 1 ∨ n = 2) (x y : List Int) : cutF n (x ++ 32 :: y) = cutF n x ++ (cutF n y).map fun c => (c.1 + (x.length + 1), c.2 + (x.length + 1)) := by
  have h1 : mayF 32 = false := by decide +kernel
  have h2 : solidF 32 = false := by decide +kernel
  rcases hn with rfl | rfl
  · simp only [cutF, if_true]
    rw [runIx_blank _ _ h1]
    have := runIx_shift mayF wordF (x.length + 1) y 0 none
    simp only [Option.map_none] at this
    rw [← this]; rfl
  · have e : ¬ (2 : Int) = 1 := by decide
    simp only [cutF, if_neg e, if_true]
    rw [runIx_blank _ _ h2]
    have := runIx_shift solidF solidF (x.length + 1) y 0 none
    simp only [Option.map_none] at this
    rw [← this]; rfl
theorem join_l (a b : ByteArray) (x y : Nat) (hy : y ≤ a.size) : (joinB a b).extract x y = a.extract x y := by
  apply ByteArray.ext
  apply Array.toList_inj.1
  rw [extract_list _ _ _ hy, extract_list _ _ _ (by show y ≤ (a.data.toList ++ 32 :: b.data.toList).toArray.size; simp; have : a.data.size = a.size := rfl; omega)]
  show ((a.data.toList ++ 32 :: b.data.toList).drop x).take (y - x) = _
  have e : a.data.toList.length = a.size := by simp
  rcases Nat.lt_or_ge x y with h | h
  · rw [List.drop_append_of_le_length (by omega), List.take_append_of_le_length (by rw [List.length_drop]; omega)]
  · rw [show y - x = 0 by omega]; simp
theorem join_r (a b : ByteArray) (x y : Nat) (hy : y ≤ b.size) : (joinB a b).extract (a.size + 1 + x) (a.size + 1 + y) = b.extract x y := by
  have e : a.data.toList.length = a.size := by simp
  have e2 : b.data.toList.length = b.size := by simp
  apply ByteArray.ext
  apply Array.toList_inj.1
  rw [extract_list _ _ _ hy, extract_list _ _ _ (by show _ ≤ (a.data.toList ++ 32 :: b.data.toList).toArray.size; rw [List.size_toArray, List.length_append, List.length_cons, e, e2]; omega)]
  show ((a.data.toList ++ 32 :: b.data.toList).drop _).take _ = _
  rw [List.drop_append, e, List.drop_eq_nil_of_le (by omega), List.nil_append, show a.size + 1 + x - a.size = x + 1 by omega, List.drop_succ_cons, show a.size + 1 + y - (a.size + 1 + x) = y - x by omega]
theorem join_list (a b : ByteArray) : (joinB a b).data.toList = a.data.toList ++ 32 :: b.data.toList := by simp [joinB]
theorem tok_l (a b : ByteArray) (i : Nat) (c : Nat × Nat) (h : c.1 ≤ c.2) (hc : c.2 ≤ nR a.data.toList) : tokAt (joinB a b) i c = tokAt a i c := by
  have h2 := posAt_le a.data.toList c.2
  have e : a.data.toList.length = a.size := by simp
  unfold tokAt
  rw [join_list, posAt_blank_l _ _ _ hc, posAt_blank_l _ _ _ (by omega), join_l _ _ _ _ (by omega)]
theorem tok_r (a b : ByteArray) (i k : Nat) (c : Nat × Nat) (h : c.1 ≤ c.2) (hc : c.2 ≤ nR b.data.toList) : tokAt (joinB a b) (k + i) (c.1 + (nR a.data.toList + 1), c.2 + (nR a.data.toList + 1)) = shiftT k (a.size + 1) (tokAt b i c) := by
  have h2 := posAt_le b.data.toList c.2
  have e : a.data.toList.length = a.size := by simp
  have e2 : b.data.toList.length = b.size := by simp
  unfold tokAt shiftT
  dsimp only
  rw [join_list, show c.1 + (nR a.data.toList + 1) = nR a.data.toList + 1 + c.1 by omega, show c.2 + (nR a.data.toList + 1) = nR a.data.toList + 1 + c.2 by omega, posAt_blank_r _ _ _ hc, posAt_blank_r _ _ _ (by omega), e, join_r _ _ _ _ (by omega)]
  simp only [TokD.mk.injEq, true_and]
  omega
theorem tokens_blank (n : Int) (hn : n = 1 ∨ n = 2) (a b : ByteArray) : tokensF n (joinB a b) = tokensF n a ++ (tokensF n b).map (shiftT (tokensF n a).length (a.size + 1)) := by
  have ha := cutF_ok n (runeL a.data.toList)
  have hb := cutF_ok n (runeL b.data.toList)
  rw [runeL_len] at ha hb
  have hc : cutF n (runeL (joinB a b).data.toList) = cutF n (runeL a.data.toList) ++ (cutF n (runeL b.data.toList)).map fun c => (c.1 + (nR a.data.toList + 1), c.2 + (nR a.data.toList + 1)) := by
    rw [join_list, runeL_blank, cut_blank n hn, runeL_len]
  unfold tokensF
  rw [hc, tokOf_len]
  have lA : (tokOf a (cutF n (runeL a.data.toList))).length = (cutF n (runeL a.data.toList)).length := tokOf_len _ _
  generalize cutF n (runeL a.data.toList) = A at *
  generalize cutF n (runeL b.data.toList) = B at *
  apply List.ext_getElem
  · simp [tokOf]
  · intro i h1 h2
    rw [tokOf_get]
    rw [tokOf_len, List.length_append, List.length_map] at h1
    rcases Nat.lt_or_ge i A.length with h | h
    · have hr : (tokOf a A ++ (tokOf b B).map (shiftT A.length (a.size + 1)))[i] = (tokOf a A)[i]'(by rw [lA]; exact h) := List.getElem_append_left _
      rw [hr, tokOf_get]
      simp only [List.getElem_append_left h]
      have := ha.1 A[i] (List.getElem_mem h)
      exact tok_l a b i A[i] (by omega) this.2
    · have hr : (tokOf a A ++ (tokOf b B).map (shiftT A.length (a.size + 1)))[i] = ((tokOf b B).map (shiftT A.length (a.size + 1)))[i - (tokOf a A).length]'(by have lB := tokOf_len b B; rw [List.length_map]; omega) := List.getElem_append_right (by rw [lA]; exact h)
      rw [hr, List.getElem_map, tokOf_get]
      simp only [List.getElem_append_right h, List.getElem_map, tokOf_len]
      have := hb.1 (B[i - A.length]'(by omega)) (List.getElem_mem _)
      have h3 := tok_r a b (i - A.length) A.length (B[i - A.length]'(by omega)) (by omega) this.2
      rw [show A.length + (i - A.length) = i by omega] at h3
      exact h3
end AnaP
end
section
namespace AnaP
open Go.Lib Go FoldP

theorem kn1 : runF [1, 10, 11] ⟨#[84, 104, 101, 32, 102, 111, 120, 32, 111, 102]⟩ = ([⟨⟨#[102, 111, 120]⟩, 1, 4, 7⟩], 0) := by kernel_rfl
theorem kn2 : runF [4] ⟨#[230, 157, 177, 228, 186, 172, 233, 131, 189, 32, 120]⟩ = ([⟨⟨#[230, 157, 177, 228, 186, 172]⟩, 0, 0, 6⟩, ⟨⟨#[228, 186, 172, 233, 131, 189]⟩, 1, 3, 9⟩, ⟨⟨#[120]⟩, 2, 10, 11⟩], 0) := by kernel_rfl
theorem kn3 : runF [1, 13] ⟨#[97, 98, 99, 100, 32, 97, 98]⟩ = ([⟨⟨#[97, 98, 99]⟩, 0, 0, 4⟩, ⟨⟨#[98, 99, 100]⟩, 0, 0, 4⟩, ⟨⟨#[97, 98]⟩, 1, 5, 7⟩], 0) := by kernel_rfl
theorem kn4 : runF [10] ⟨#[]⟩ = ([], 60) := by kernel_rfl
end AnaP
end
