/- Plain laws: where tokens lie, a chain's last link, two texts with a blank between. -/
import Derived.Test.YtfbedonphhiolaaDoorAnaSub
namespace AnaP
open Go.Lib Go FoldP

/-! ### Where tokens lie -/
def Le (x y : TokD) : Prop := x.pos ≤ y.pos ∧ x.frm ≤ y.frm
def PlaceOk (n : Nat) (ts : List TokD) : Prop := (∀ t ∈ ts, 0 ≤ t.frm ∧ t.frm < t.til ∧ t.til ≤ (n : Int)) ∧ ts.Pairwise Le
theorem tokOf_get (s : ByteArray) (cuts : List (Nat × Nat)) (i : Nat) (h : i < (tokOf s cuts).length) : (tokOf s cuts)[i] = tokAt s i (cuts[i]'(by rw [tokOf_len] at h; exact h)) := by
  simp [tokOf]
theorem posAt_lt (l : List UInt8) (i j : Nat) (h : i < j) (hj : j ≤ nR l) : posAt l i < posAt l j := by
  have h1 := posAt_step l i (by omega)
  have h2 := posAt_mono l (i + 1) j (by omega) hj
  omega
theorem place_tokens (n : Int) (s : ByteArray) : PlaceOk s.size (tokensF n s) := by
  have hc := cutF_ok n (runeL s.data.toList)
  rw [runeL_len] at hc
  unfold tokensF
  generalize cutF n (runeL s.data.toList) = cuts at *
  refine ⟨fun t ht => ?_, ?_⟩
  · obtain ⟨i, hi, rfl⟩ := List.mem_iff_getElem.1 ht
    rw [tokOf_get]
    have hi' : i < cuts.length := by rwa [tokOf_len] at hi
    obtain ⟨h1, h2⟩ := hc.1 cuts[i] (List.getElem_mem hi')
    have h3 := posAt_lt s.data.toList _ _ h1 h2
    have h4 := posAt_le s.data.toList cuts[i].2
    have e2 : s.data.toList.length = s.size := by simp
    unfold tokAt
    dsimp only
    omega
  · rw [List.pairwise_iff_getElem]
    intro i j hi hj hij
    rw [tokOf_get, tokOf_get]
    have hi' : i < cuts.length := by rwa [tokOf_len] at hi
    have hj' : j < cuts.length := by rwa [tokOf_len] at hj
    have h1 := (List.pairwise_iff_getElem.1 hc.2) i j hi' hj' hij
    have h2 := hc.1 cuts[j] (List.getElem_mem hj')
    have h3 := posAt_mono s.data.toList _ _ h1 (by omega)
    unfold Le tokAt
    dsimp only
    omega
theorem oneT_same {n : Int} {t x : TokD} (h : x ∈ oneT n t) : x.pos = t.pos ∧ x.frm = t.frm := by
  unfold oneT at h
  rw [List.mem_map] at h
  obtain ⟨y, _, rfl⟩ := h
  exact ⟨rfl, rfl⟩
theorem linkGo_pair (n : Int) : ∀ (l acc ts : List TokD), l.Pairwise Le → acc.Pairwise Le → (∀ x ∈ acc, ∀ y ∈ l, Le x y) → linkGo n l acc = some ts → ts.Pairwise Le
  | [], acc, ts, _, ha, _, e => by unfold linkGo at e; cases e; exact ha
  | t :: l, acc, ts, hl, ha, hx, e => by
    rw [List.pairwise_cons] at hl
    unfold linkGo at e
    split at e
    · cases e
    · refine linkGo_pair n l _ ts hl.2 ?_ ?_ e
      · refine List.pairwise_append.2 ⟨ha, ?_, fun x h1 y h2 => ?_⟩
        · rw [List.pairwise_iff_getElem]
          intro i j hi hj _
          have h1 := oneT_same (List.getElem_mem hi)
          have h2 := oneT_same (List.getElem_mem hj)
          unfold Le; omega
        · have h3 := oneT_same h2
          have h4 := hx x h1 t (by simp)
          unfold Le at *; omega
      · intro x h1 y h2
        rcases List.mem_append.1 h1 with h1 | h1
        · exact hx x h1 y (List.mem_cons_of_mem _ h2)
        · have h3 := oneT_same h1
          have h4 := hl.1 y h2
          unfold Le at *; omega
theorem place_link {n : Int} {m : Nat} {l ts : List TokD} (h : PlaceOk m l) (e : linkF n l = some ts) : PlaceOk m ts :=
  ⟨link_all (p := fun t => 0 ≤ t.frm ∧ t.frm < t.til ∧ t.til ≤ (m : Int)) (fun _ _ h _ => h) h.1 e, linkGo_pair n l [] ts h.2 List.Pairwise.nil (fun x hx => by cases hx) e⟩
theorem linkAll_cases : ∀ (ns : List Int) (t : List TokD), (linkAll ns t).2 = 0 ∨ linkAll ns t = ([], 84)
  | [], t => .inl rfl
  | n :: ns, t => by
    unfold linkAll
    split
    · exact .inr rfl
    · exact linkAll_cases ns _
theorem linkAll_all {p : List TokD → Prop} (hp : ∀ n l ts, p l → linkF n l = some ts → p ts) : ∀ (ns : List Int) (t : List TokD), p t → (linkAll ns t).2 = 0 → p (linkAll ns t).1
  | [], t, h, _ => h
  | n :: ns, t, h, e => by
    unfold linkAll at e ⊢
    split at e
    · cases e
    · rename_i t' he
      exact linkAll_all hp ns _ (hp n t t' h he) e
theorem runF_cases (c : List Int) (s : ByteArray) : (runF c s).2 = 0 ∨ (runF c s).1 = [] := by
  unfold runF
  split
  · exact .inr rfl
  · split
    · exact .inr rfl
    · split
      · exact .inr rfl
      · rcases linkAll_cases c.tail (tokensF (c.getD 0 0) s) with h | h
        · exact .inl h
        · rw [h]; exact .inr rfl
theorem runF_val (c : List Int) (s : ByteArray) : (runF c s).2 = 0 ∨ (runF c s).2 = 60 ∨ (runF c s).2 = 3 ∨ (runF c s).2 = 84 := by
  unfold runF
  split
  · simp
  · split
    · simp
    · split
      · simp
      · rcases linkAll_cases c.tail (tokensF (c.getD 0 0) s) with h | h
        · rw [h]; simp
        · rw [h]; simp
theorem runF_all {p : List TokD → Prop} (hp : ∀ n l ts, p l → linkF n l = some ts → p ts) (c : List Int) (s : ByteArray) (h0 : s.size ≤ 4096 → (tokensF (c.getD 0 0) s).length ≤ 4096 → p (tokensF (c.getD 0 0) s)) (e : (runF c s).2 = 0) : p (runF c s).1 := by
  unfold runF at e ⊢
  split at e
  · cases e
  · split at e
    · cases e
    · split at e
      · cases e
      · rename_i h1 h2 h3
        rw [if_neg h1, if_neg h2, if_neg h3]
        exact linkAll_all hp _ _ (h0 (by omega) (by omega)) e
theorem runF_places (c : List Int) (s : ByteArray) (e : (runF c s).2 = 0) : PlaceOk s.size (runF c s).1 :=
  runF_all (p := PlaceOk s.size) (fun n l ts h e => place_link h e) c s (fun _ _ => place_tokens _ s) e
theorem runF_len (c : List Int) (s : ByteArray) : (runF c s).1.length ≤ 4096 := by
  rcases runF_cases c s with h | h
  · exact runF_all (p := fun l => l.length ≤ 4096) (fun n l ts _ e => linkF_len4 e) c s (fun _ h => h) h
  · rw [h]; simp
theorem runF_text (c : List Int) (s : ByteArray) : ∀ t ∈ (runF c s).1, t.text.size ≤ 4096 := by
  rcases runF_cases c s with h | h
  · exact runF_all (p := fun l => ∀ t ∈ l, t.text.size ≤ 4096) (fun n l ts h e => link_all (p := fun t => t.text.size ≤ 4096) (fun t x h1 h2 => by have := one_size n t.text x h2; exact Nat.le_trans this h1) h e) c s
      (fun h4 _ t ht => by have := tokensF_size _ s t ht; omega) h
  · rw [h]; simp
/-- A chain of a tokenizer alone. -/
theorem runF_one (n : Int) (h1 : 1 ≤ n) (h2 : n ≤ 4) (s : ByteArray) (hs : s.size ≤ 4096) : runF [n] s = (tokensF n s, 0) := by
  have hl := tokensF_len n s
  have hc : checkB [n] = true := by simp [checkB, checkGo, h1, h2]
  unfold runF
  rw [hc, if_neg (by simp), if_neg (by omega), if_neg (by simp only [List.getD_cons_zero]; omega)]
  rfl
theorem runF_single (c : List Int) (s : ByteArray) (hc : c.length = 1) (e : (runF c s).2 = 0) : (runF c s).1 = tokensF (c.getD 0 0) s := by
  match c, hc with
  | [n], _ =>
    unfold runF at e ⊢
    split at e
    · cases e
    · split at e
      · cases e
      · split at e
        · cases e
        · rename_i h1 h2 h3
          rw [if_neg h1, if_neg h2, if_neg h3]; rfl
theorem tokens_text (n : Int) (s : ByteArray) (i : Nat) (h : i < (tokensF n s).length) : ∃ a b : Nat, a ≤ b ∧ b ≤ s.size ∧ (tokensF n s)[i].text = s.extract a b ∧ (tokensF n s)[i].pos = i ∧ (tokensF n s)[i].frm = a ∧ (tokensF n s)[i].til = b := by
  have hc := cutF_ok n (runeL s.data.toList)
  rw [runeL_len] at hc
  unfold tokensF at h ⊢
  have hi' : i < (cutF n (runeL s.data.toList)).length := by rwa [tokOf_len] at h
  have h2 := hc.1 _ (List.getElem_mem hi')
  have h3 := posAt_mono s.data.toList _ _ (Nat.le_of_lt h2.1) h2.2
  have h4 := posAt_le s.data.toList (cutF n (runeL s.data.toList))[i].2
  have e2 : s.data.toList.length = s.size := by simp
  rw [tokOf_get]
  exact ⟨_, _, h3, by omega, rfl, rfl, rfl, rfl⟩

/-! ### A chain's last link -/
def linkRet (n : Int) (l : List TokD) : List TokD × Int := match linkF n l with
  | none => ([], 84)
  | some t => (t, 0)
theorem linkAll_snoc (n : Int) : ∀ (ns : List Int) (t : List TokD), linkAll (ns ++ [n]) t = if (linkAll ns t).2 = 0 then linkRet n (linkAll ns t).1 else linkAll ns t
  | [], t => by
    simp only [List.nil_append, linkAll, if_true]
    unfold linkRet
    cases linkF n t <;> rfl
  | m :: ns, t => by
    cases hm : linkF m t with
    | none => simp only [List.cons_append, linkAll, hm]; rfl
    | some t' => simp only [List.cons_append, linkAll, hm]; exact linkAll_snoc n ns t'
theorem checkGo_app : ∀ (x y seen : List Int), checkGo seen (x ++ y) = (checkGo seen x && checkGo (seen ++ x) y)
  | [], y, seen => by simp [checkGo]
  | n :: x, y, seen => by
    rw [List.cons_append, checkGo, checkGo, checkGo_app x y, List.append_assoc, List.singleton_append]
    simp only [Bool.and_assoc]
theorem check_snoc {c : List Int} {n : Int} (hc : c ≠ []) (h : checkB (c ++ [n]) = true) : checkB c = true ∧ filterB n = true := by
  cases c with
  | nil => exact absurd rfl hc
  | cons a t =>
    simp only [List.cons_append, checkB, checkGo_app, checkGo, Bool.and_eq_true, decide_eq_true_eq, List.length_append, List.length_singleton, List.nil_append] at *
    obtain ⟨⟨⟨h1, h2⟩, h3⟩, h4, ⟨h5, _⟩, _⟩ := h
    exact ⟨⟨⟨⟨by omega, h2⟩, h3⟩, h4⟩, h5⟩
theorem runF_snoc (c : List Int) (n : Int) (s : ByteArray) (hc : c ≠ []) (h : checkB (c ++ [n]) = true) : runF (c ++ [n]) s = if (runF c s).2 = 0 then linkRet n (runF c s).1 else ([], (runF c s).2) := by
  obtain ⟨h1, _⟩ := check_snoc hc h
  cases c with
  | nil => exact absurd rfl hc
  | cons a t =>
    unfold runF
    rw [h, h1]
    simp only [Bool.true_eq_false, if_false, List.cons_append, List.getD_cons_zero, List.tail_cons]
    by_cases h2 : 4096 < s.size
    · rw [if_pos h2, if_pos h2, if_neg (by decide)]
    · rw [if_neg h2, if_neg h2]
      by_cases h3 : 4096 < (tokensF a s).length
      · rw [if_pos h3, if_pos h3, if_neg (by decide)]
      · rw [if_neg h3, if_neg h3, linkAll_snoc]
        rcases linkAll_cases t (tokensF a s) with h4 | h4
        · rw [if_pos h4, if_pos h4]
        · rw [h4]

/-! ### Two texts with a blank between -/
def shiftT (k d : Nat) (t : TokD) : TokD := { t with pos := t.pos + k, frm := t.frm + d, til := t.til + d }
def joinB (a b : ByteArray) : ByteArray := ⟨(a.data.toList ++ 32 :: b.data.toList).toArray⟩
theorem cut_blank (n : Int) (hn : n = 1 ∨ n = 2) (x y : List Int) : cutF n (x ++ 32 :: y) = cutF n x ++ (cutF n y).map fun c => (c.1 + (x.length + 1), c.2 + (x.length + 1)) := by
  have h1 : mayF 32 = false := by decide +kernel
  have h2 : solidF 32 = false := by decide +kernel
  rcases hn with rfl | rfl
  · simp only [cutF, if_true]
    rw [runIx_blank _ _ h1]
    have := runIx_shift mayF wordF (x.length + 1) y 0 none
    simp only [Option.map_none] at this
    rw [← this]; rfl
  · have e : ¬ (2 : Int) = 1 := by decide
    simp only [cutF, if_neg e, if_true]
    rw [runIx_blank _ _ h2]
    have := runIx_shift solidF solidF (x.length + 1) y 0 none
    simp only [Option.map_none] at this
    rw [← this]; rfl
theorem join_l (a b : ByteArray) (x y : Nat) (hy : y ≤ a.size) : (joinB a b).extract x y = a.extract x y := by
  apply ByteArray.ext
  apply Array.toList_inj.1
  rw [extract_list _ _ _ hy, extract_list _ _ _ (by show y ≤ (a.data.toList ++ 32 :: b.data.toList).toArray.size; simp; have : a.data.size = a.size := rfl; omega)]
  show ((a.data.toList ++ 32 :: b.data.toList).drop x).take (y - x) = _
  have e : a.data.toList.length = a.size := by simp
  rcases Nat.lt_or_ge x y with h | h
  · rw [List.drop_append_of_le_length (by omega), List.take_append_of_le_length (by rw [List.length_drop]; omega)]
  · rw [show y - x = 0 by omega]; simp
theorem join_r (a b : ByteArray) (x y : Nat) (hy : y ≤ b.size) : (joinB a b).extract (a.size + 1 + x) (a.size + 1 + y) = b.extract x y := by
  have e : a.data.toList.length = a.size := by simp
  have e2 : b.data.toList.length = b.size := by simp
  apply ByteArray.ext
  apply Array.toList_inj.1
  rw [extract_list _ _ _ hy, extract_list _ _ _ (by show _ ≤ (a.data.toList ++ 32 :: b.data.toList).toArray.size; rw [List.size_toArray, List.length_append, List.length_cons, e, e2]; omega)]
  show ((a.data.toList ++ 32 :: b.data.toList).drop _).take _ = _
  rw [List.drop_append, e, List.drop_eq_nil_of_le (by omega), List.nil_append, show a.size + 1 + x - a.size = x + 1 by omega, List.drop_succ_cons, show a.size + 1 + y - (a.size + 1 + x) = y - x by omega]
theorem join_list (a b : ByteArray) : (joinB a b).data.toList = a.data.toList ++ 32 :: b.data.toList := by simp [joinB]
theorem tok_l (a b : ByteArray) (i : Nat) (c : Nat × Nat) (h : c.1 ≤ c.2) (hc : c.2 ≤ nR a.data.toList) : tokAt (joinB a b) i c = tokAt a i c := by
  have h2 := posAt_le a.data.toList c.2
  have e : a.data.toList.length = a.size := by simp
  unfold tokAt
  rw [join_list, posAt_blank_l _ _ _ hc, posAt_blank_l _ _ _ (by omega), join_l _ _ _ _ (by omega)]
theorem tok_r (a b : ByteArray) (i k : Nat) (c : Nat × Nat) (h : c.1 ≤ c.2) (hc : c.2 ≤ nR b.data.toList) : tokAt (joinB a b) (k + i) (c.1 + (nR a.data.toList + 1), c.2 + (nR a.data.toList + 1)) = shiftT k (a.size + 1) (tokAt b i c) := by
  have h2 := posAt_le b.data.toList c.2
  have e : a.data.toList.length = a.size := by simp
  have e2 : b.data.toList.length = b.size := by simp
  unfold tokAt shiftT
  dsimp only
  rw [join_list, show c.1 + (nR a.data.toList + 1) = nR a.data.toList + 1 + c.1 by omega, show c.2 + (nR a.data.toList + 1) = nR a.data.toList + 1 + c.2 by omega, posAt_blank_r _ _ _ hc, posAt_blank_r _ _ _ (by omega), e, join_r _ _ _ _ (by omega)]
  simp only [TokD.mk.injEq, true_and]
  omega
theorem tokens_blank (n : Int) (hn : n = 1 ∨ n = 2) (a b : ByteArray) : tokensF n (joinB a b) = tokensF n a ++ (tokensF n b).map (shiftT (tokensF n a).length (a.size + 1)) := by
  have ha := cutF_ok n (runeL a.data.toList)
  have hb := cutF_ok n (runeL b.data.toList)
  rw [runeL_len] at ha hb
  have hc : cutF n (runeL (joinB a b).data.toList) = cutF n (runeL a.data.toList) ++ (cutF n (runeL b.data.toList)).map fun c => (c.1 + (nR a.data.toList + 1), c.2 + (nR a.data.toList + 1)) := by
    rw [join_list, runeL_blank, cut_blank n hn, runeL_len]
  unfold tokensF
  rw [hc, tokOf_len]
  have lA : (tokOf a (cutF n (runeL a.data.toList))).length = (cutF n (runeL a.data.toList)).length := tokOf_len _ _
  generalize cutF n (runeL a.data.toList) = A at *
  generalize cutF n (runeL b.data.toList) = B at *
  apply List.ext_getElem
  · simp [tokOf]
  · intro i h1 h2
    rw [tokOf_get]
    rw [tokOf_len, List.length_append, List.length_map] at h1
    rcases Nat.lt_or_ge i A.length with h | h
    · have hr : (tokOf a A ++ (tokOf b B).map (shiftT A.length (a.size + 1)))[i] = (tokOf a A)[i]'(by rw [lA]; exact h) := List.getElem_append_left _
      rw [hr, tokOf_get]
      simp only [List.getElem_append_left h]
      have := ha.1 A[i] (List.getElem_mem h)
      exact tok_l a b i A[i] (by omega) this.2
    · have hr : (tokOf a A ++ (tokOf b B).map (shiftT A.length (a.size + 1)))[i] = ((tokOf b B).map (shiftT A.length (a.size + 1)))[i - (tokOf a A).length]'(by have lB := tokOf_len b B; rw [List.length_map]; omega) := List.getElem_append_right (by rw [lA]; exact h)
      rw [hr, List.getElem_map, tokOf_get]
      simp only [List.getElem_append_right h, List.getElem_map, tokOf_len]
      have := hb.1 (B[i - A.length]'(by omega)) (List.getElem_mem _)
      have h3 := tok_r a b (i - A.length) A.length (B[i - A.length]'(by omega)) (by omega) this.2
      rw [show A.length + (i - A.length) = i by omega] at h3
      exact h3
end AnaP
