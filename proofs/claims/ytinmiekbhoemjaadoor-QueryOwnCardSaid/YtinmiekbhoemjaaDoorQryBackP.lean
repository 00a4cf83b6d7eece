/- What is written is read again, in plain Lean: a formed query from its text, unless it is too deep. -/
import Derived.Test.YtinmiekbhoemjaaDoorPack8
namespace QryP
open SchP

/-- What may stand behind a query, a number or a name. -/
def Stop (r : R) : Prop := ∀ c t, r = c :: t → c = 44 ∨ c = 41
theorem stop_nil : Stop [] := fun c t h => by cases h
theorem stop_comma (r : R) : Stop (44 :: r) := fun c t h => by cases h; exact .inl rfl
theorem stop_close (r : R) : Stop (41 :: r) := fun c t h => by cases h; exact .inr rfl
theorem Stop.let {r : R} (h : Stop r) : r.takeWhile letB = [] ∧ r.dropWhile letB = r := by
  cases r with
  | nil => exact ⟨rfl, rfl⟩
  | cons c t => rcases h c t rfl with rfl | rfl <;> exact ⟨rfl, rfl⟩
theorem Stop.skip {r : R} (h : Stop r) : skipS r = r := by
  cases r with
  | nil => rfl
  | cons c t => rcases h c t rfl with rfl | rfl <;> rfl
theorem skip_blank (r : R) : skipS (32 :: r) = skipS r := rfl
theorem skip_cons {c : UInt8} (r : R) (h : blankB c = false) : skipS (c :: r) = c :: r := by unfold skipS; rw [List.dropWhile_cons, h]; rfl
theorem want_comma (r : R) : wantS 44 (44 :: r) = .ok r := rfl
theorem want_close (r : R) : wantS 41 (41 :: r) = .ok r := rfl
theorem want_open (r : R) : wantS 40 (40 :: r) = .ok r := rfl
theorem take_run {p : UInt8 → Bool} : ∀ {a : R} {r : R}, (∀ c ∈ a, p c = true) → r.takeWhile p = [] → r.dropWhile p = r → (a ++ r).takeWhile p = a ∧ (a ++ r).dropWhile p = r
  | [], r, _, h1, h2 => ⟨h1, h2⟩
  | c :: a, r, ha, h1, h2 => by
    have hc := ha c (by simp)
    obtain ⟨h3, h4⟩ := take_run (fun x hx => ha x (List.mem_cons_of_mem _ hx)) h1 h2
    simp only [List.cons_append, List.takeWhile_cons, List.dropWhile_cons, hc, if_true, h3, h4, and_self]
theorem let_blank {c : UInt8} (h : letB c = true) : blankB c = false := by
  simp only [letB, digB, blankB, Bool.or_eq_true, decide_eq_true_eq, decide_eq_false_iff_not] at *
  rintro (rfl | rfl | rfl | rfl) <;> simp at h <;> omega
theorem skip_let {a r : R} (ha : ∀ c ∈ a, letB c = true) (h0 : a ≠ []) : skipS (a ++ r) = a ++ r := by
  cases a with
  | nil => exact absurd rfl h0
  | cons c a => exact skip_cons _ (let_blank (ha c (by simp)))

/-! ### Names -/
theorem byte_let {i : Nat} {c : UInt8} (h : byteB i c = true) : letB c = true := by
  simp only [byteB, letB, digB, Bool.or_eq_true, Bool.and_eq_true, decide_eq_true_eq] at *
  rcases h with (h | h) | ⟨_, h⟩
  · exact .inl (.inl h)
  · exact .inr (UInt8.toNat_inj.1 (by rw [h]; rfl))
  · exact .inl (.inr h)
theorem bytes_let : ∀ {l : R} {i : Nat}, bytesB i l = true → ∀ c ∈ l, letB c = true
  | [], _, _, c, hc => by cases hc
  | x :: l, i, h, c, hc => by
    rw [bytesB, Bool.and_eq_true] at h
    rcases List.mem_cons.1 hc with rfl | hc
    · exact byte_let h.1
    · exact bytes_let h.2 c hc
theorem bytes_list (s : ByteArray) : bytes s.data.toList = s := rfl
theorem name_ne {s : ByteArray} (h : nameB s = true) : s.data.toList ≠ [] := by
  simp only [nameB, Bool.and_eq_true, decide_eq_true_eq] at h
  intro h0
  have : s.size = 0 := by show s.data.size = 0; rw [← Array.length_toList, h0]; rfl
  omega
theorem name_read {s : ByteArray} {r : R} (h : nameB s = true) (hr : Stop r) : nameS (s.data.toList ++ r) = .ok (s, r) := by
  have hb : ∀ c ∈ s.data.toList, letB c = true := by
    simp only [nameB, Bool.and_eq_true] at h
    exact bytes_let h.1.1
  obtain ⟨h1, h2⟩ := take_run hb hr.let.1 hr.let.2
  unfold nameS
  rw [skip_let hb (name_ne h), h1, h2, bytes_list, if_pos h]
theorem name_blank (r : R) : nameS (32 :: r) = nameS r := rfl

/-! ### Numbers -/
section
variable {num : Int → R} {par : R → Option Int} {I : Int → Prop}
structure NumLaw (num : Int → R) (par : R → Option Int) (I : Int → Prop) : Prop where
  back : ∀ n, I n → par (num n) = some n
  form : ∀ n, ∃ s ds, num n = s ++ ds ∧ (s = [] ∨ s = [45]) ∧ ds ≠ [] ∧ ∀ c ∈ ds, digB c = true
theorem dig_ne {c : UInt8} (h : digB c = true) : c ≠ 45 ∧ blankB c = false := by
  simp only [digB, blankB, decide_eq_true_eq, decide_eq_false_iff_not] at *
  refine ⟨?_, ?_⟩
  · rintro rfl; simp at h
  · rintro (rfl | rfl | rfl | rfl) <;> simp at h
/-- What may stand behind a number: no digit. -/
theorem num_read (N : NumLaw num par I) {n : Int} (hn : I n) {r : R} (h1 : r.takeWhile digB = []) (h2 : r.dropWhile digB = r) : numS num par (num n ++ r) = .ok (n, r) := by
  obtain ⟨s, ds, e, hs, hd, hall⟩ := N.form n
  obtain ⟨h3, h4⟩ := take_run hall h1 h2
  have e1 : skipS (num n ++ r) = num n ++ r := by
    rw [e]
    rcases hs with rfl | rfl
    · cases ds with
      | nil => exact absurd rfl hd
      | cons c ds => exact skip_cons _ (dig_ne (hall c (by simp))).2
    · exact skip_cons _ rfl
  have e2 : signS (num n ++ r) = s ∧ restS (num n ++ r) = ds ++ r := by
    rw [e]
    rcases hs with rfl | rfl
    · cases ds with
      | nil => exact absurd rfl hd
      | cons c ds =>
        have := (dig_ne (hall c (by simp))).1
        simp only [signS, restS, List.nil_append, List.cons_append, List.head?_cons, Option.some.injEq]
        rw [if_neg this, if_neg this]
        exact ⟨rfl, rfl⟩
    · exact ⟨rfl, rfl⟩
  unfold numS
  rw [e1, e2.1, e2.2, h3, h4, ← e, N.back n hn]
  simp
theorem num_blank (r : R) : numS num par (32 :: r) = numS num par r := rfl
theorem Stop.dig {r : R} (h : Stop r) : r.takeWhile digB = [] ∧ r.dropWhile digB = r := by
  cases r with
  | nil => exact ⟨rfl, rfl⟩
  | cons c t => rcases h c t rfl with rfl | rfl <;> exact ⟨rfl, rfl⟩
theorem num_head (N : NumLaw num par I) (n : Int) : ∃ c t, num n = c :: t ∧ (c = 45 ∨ digB c = true) ∧ blankB c = false := by
  obtain ⟨s, ds, e, hs, hd, hall⟩ := N.form n
  cases ds with
  | nil => exact absurd rfl hd
  | cons c ds =>
    rcases hs with rfl | rfl
    · exact ⟨c, ds, e, .inr (hall c (by simp)), (dig_ne (hall c (by simp))).2⟩
    · exact ⟨45, c :: ds, e, .inl rfl, rfl⟩
theorem joinF_cons (sep a : R) {l : List R} (h : l ≠ []) : joinF sep (a :: l) = a ++ sep ++ joinF sep l := by
  cases l with
  | nil => exact absurd rfl h
  | cons b l => rfl
theorem sev_read (N : NumLaw num par I) : ∀ {l : List Int} {r : R} {m : Nat}, l ≠ [] → (∀ n ∈ l, I n) → Stop r → l.length < m → sevS num par m (numsF num l ++ r) = .ok (l, r)
  | [], _, _, h, _, _, _ => absurd rfl h
  | n :: l, r, 0, _, _, _, hm => by omega
  | [n], r, m + 1, _, hI, hr, hm => by
    unfold sevS
    rw [show numsF num [n] = num n from rfl, num_read N (hI n (by simp)) hr.dig.1 hr.dig.2]
    dsimp only
    rw [hr.skip]
    cases r with
    | nil => rfl
    | cons c t =>
      have : ¬ (c = 45 ∨ digB c = true) := by rcases hr c t rfl with rfl | rfl <;> simp [digB]
      dsimp only
      rw [if_pos this]
  | n :: n2 :: l, r, m + 1, _, hI, hr, hm => by
    obtain ⟨c, t, hc, h1, h2⟩ := num_head N n2
    have hj : numsF num (n :: n2 :: l) ++ r = num n ++ (32 :: (numsF num (n2 :: l) ++ r)) := by
      unfold numsF
      rw [List.map_cons, joinF_cons _ _ (by simp)]
      simp
    have hh : ∃ u, numsF num (n2 :: l) ++ r = c :: u := by
      unfold numsF
      cases l with
      | nil => exact ⟨t ++ r, by simp [joinF, hc]⟩
      | cons x l => exact ⟨t ++ ([32] ++ (joinF [32] (List.map num (x :: l)) ++ r)), by rw [List.map_cons, joinF_cons _ _ (by simp), hc]; simp⟩
    obtain ⟨u, hu⟩ := hh
    unfold sevS
    rw [hj, num_read N (hI n (by simp)) rfl rfl]
    dsimp only
    rw [skip_blank, hu, skip_cons _ h2]
    dsimp only
    rw [if_neg (not_not_intro h1), if_neg (by simp), ← hu, sev_read N (by simp) (fun x hx => hI x (List.mem_cons_of_mem _ hx)) hr (by simp at hm ⊢; omega)]
theorem sev_blank (m : Nat) (r : R) : sevS num par m (32 :: r) = sevS num par m r := by
  cases m with
  | zero => rfl
  | succ m => unfold sevS; rw [num_blank]

/-! ### Quoted texts -/
theorem hex_nib {n : Nat} (h : n < 16) : nibS (hexD n) = some n := by
  have : ∀ m : Fin 16, nibS (hexD m.val) = some m.val := by decide
  exact this ⟨n, h⟩
theorem str_esc (p : Nat) (d : UInt8) (t : R) (h : d = 34 ∨ d = 92) : strS p (92 :: d :: t) = pushS d (strS p t) := by
  rw [strS.eq_def]; dsimp only
  rw [if_neg (by decide), if_neg (by decide), if_neg (by decide), if_pos h]
theorem str_hex (p : Nat) (a b : UInt8) (x y : Nat) (t : R) (ha : nibS a = some x) (hb : nibS b = some y) : strS p (92 :: 120 :: a :: b :: t) = pushS (UInt8.ofNat (16 * x + y)) (strS p t) := by
  rw [strS.eq_def]; dsimp only
  rw [if_neg (by decide), if_neg (by decide), if_neg (by decide), if_neg (by decide), ha, hb]
  dsimp only
  rw [if_pos rfl]
theorem str_one (p : Nat) (c : UInt8) (t : R) (h1 : c ≠ 34) (h2 : c ≠ 10) (h3 : c ≠ 92) : strS p (c :: t) = pushS c (strS p t) := by
  rw [strS.eq_def]; dsimp only
  rw [if_neg h1, if_neg h2, if_pos h3]
theorem str_end (p : Nat) (t : R) : strS p (34 :: t) = .ok ([], t) := by
  rw [strS.eq_def]; dsimp only
  rw [if_pos rfl]
theorem str_quote (p : Nat) (c : UInt8) (r : R) : strS p (quoteC c ++ r) = pushS c (strS p r) := by
  unfold quoteC
  by_cases h1 : c = 34 ∨ c = 92
  · rw [if_pos h1]
    exact str_esc p c r h1
  · rw [if_neg h1]
    by_cases h2 : c.toNat < 32 ∨ 127 ≤ c.toNat
    · rw [if_pos h2]
      have hl := c.toNat_lt
      have := str_hex p _ _ _ _ r (hex_nib (n := c.toNat / 16) (by omega)) (hex_nib (n := c.toNat % 16) (by omega))
      rw [show 16 * (c.toNat / 16) + c.toNat % 16 = c.toNat by omega, UInt8.ofNat_toNat] at this
      exact this
    · rw [if_neg h2]
      exact str_one p c r (fun h => h1 (.inl h)) (by rintro rfl; simp at h2) (fun h => h1 (.inr h))
theorem str_read (p : Nat) (r : R) : ∀ s : R, strS p (s.flatMap quoteC ++ 34 :: r) = .ok (s, r)
  | [] => by rw [List.flatMap_nil, List.nil_append, str_end]
  | c :: s => by rw [List.flatMap_cons, List.append_assoc, str_quote, str_read p r s]; rfl
theorem text_read (s : ByteArray) (r : R) : textS (quoteF s ++ r) = .ok (s, r) := by
  unfold textS quoteF
  rw [List.cons_append, List.append_assoc]
  rw [show wantS 34 (34 :: (s.data.toList.flatMap quoteC ++ ([34] ++ r))) = .ok (s.data.toList.flatMap quoteC ++ ([34] ++ r)) from rfl]
  dsimp only
  rw [show [34] ++ r = (34 : UInt8) :: r from rfl, str_read]
  rfl
theorem text_blank (r : R) : textS (32 :: r) = textS r := rfl

/-! ### Words -/
theorem word_read {k : Int} (h : 1 ≤ k ∧ k ≤ 10) {r : R} (hr : r.takeWhile letB = [] ∧ r.dropWhile letB = r) (d : Nat) : kindS d (wordF k ++ r) = if d = 0 then .error ((wordF k ++ r).length, 182) else .ok (k, r) := by
  have hk : k = 1 ∨ k = 2 ∨ k = 3 ∨ k = 4 ∨ k = 5 ∨ k = 6 ∨ k = 7 ∨ k = 8 ∨ k = 9 ∨ k = 10 := by omega
  have hall : (∀ c ∈ wordF k, letB c = true) ∧ wordF k ≠ [] ∧ findK wordF (wordF k) 10 = some k := by
    rcases hk with rfl | rfl | rfl | rfl | rfl | rfl | rfl | rfl | rfl | rfl <;> decide
  obtain ⟨h1, h2⟩ := take_run hall.1 hr.1 hr.2
  unfold kindS
  rw [skip_let hall.1 hall.2.1, h1, h2, hall.2.2]
theorem op_read {k : Int} (h : 1 ≤ k ∧ k ≤ 3) {r : R} (hr : Stop r) : opS (opF k ++ r) = .ok (k, r) := by
  have hk : k = 1 ∨ k = 2 ∨ k = 3 := by omega
  have hall : (∀ c ∈ opF k, letB c = true) ∧ opF k ≠ [] ∧ findK opF (opF k) 3 = some k := by
    rcases hk with rfl | rfl | rfl <;> decide
  obtain ⟨h1, h2⟩ := take_run hall.1 hr.let.1 hr.let.2
  unfold opS
  rw [skip_let hall.1 hall.2.1, h1, h2, hall.2.2]
theorem query_blank (d : Nat) (r : R) : queryS num par d (32 :: r) = queryS num par d r := by cases d <;> rfl
end
end QryP
