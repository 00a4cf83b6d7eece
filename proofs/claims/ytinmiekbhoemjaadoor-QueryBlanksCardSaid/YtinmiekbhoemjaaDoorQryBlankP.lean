/- One more blank beside blanks makes no difference, in plain Lean. -/
import Derived.Test.YtinmiekbhoemjaaDoorQryLenP
namespace QryP
open SchP

/-- Is a place behind these bytes within a quoted text? -/
def scanS : Bool → R → Bool
  | b, [] => b
  | false, c :: t => if c = 34 then scanS true t else scanS false t
  | true, c :: t => if c = 92 then (match t with
      | [] => true
      | _ :: t' => scanS true t') else if c = 34 then scanS false t else scanS true t
/-- A text, and the text with one more blank ahead of a blank, outside quoted texts (w: within one from the start). -/
def Ins (w : Bool) (r r' : R) : Prop := ∃ (a : R) (b c : UInt8) (rest : R), r = a ++ b :: rest ∧ r' = a ++ c :: b :: rest ∧ blankB b = true ∧ blankB c = true ∧ scanS w a = false
def InsE (r r' : R) : Prop := r = r' ∨ Ins false r r'
def Ok2 {α : Type} (x x' : E (α × R)) : Prop := ∀ v r, x = .ok (v, r) → ∃ r', x' = .ok (v, r') ∧ InsE r r'
theorem blank_ne {c : UInt8} (h : blankB c = true) : c ≠ 34 := by rintro rfl; revert h; decide
theorem scan_step {c : UInt8} {t : R} (h : c ≠ 34) : scanS false (c :: t) = scanS false t := by rw [scanS, if_neg h]
/-- The head: as it was, or a blank. -/
theorem ins_head {x : UInt8} {t r' : R} (h : Ins false (x :: t) r') (hx : blankB x = false) : ∃ t', r' = x :: t' ∧ (x ≠ 34 → Ins false t t') ∧ (x = 34 → Ins true t t') := by
  obtain ⟨a, b, c, rest, e, rfl, hb, hc, hs⟩ := h
  cases a with
  | nil => simp only [List.nil_append, List.cons.injEq] at e; rw [e.1, hb] at hx; cases hx
  | cons y a =>
    simp only [List.cons_append, List.cons.injEq] at e
    obtain ⟨rfl, rfl⟩ := e
    refine ⟨_, rfl, fun hne => ⟨a, b, c, rest, rfl, rfl, hb, hc, by rwa [scan_step hne] at hs⟩, fun he => ⟨a, b, c, rest, rfl, rfl, hb, hc, ?_⟩⟩
    rw [scanS, if_pos he] at hs
    exact hs
theorem skip_on {c : UInt8} (t : R) (h : blankB c = true) : skipS (c :: t) = skipS t := by unfold skipS; rw [List.dropWhile_cons, if_pos h]
theorem skip_off {c : UInt8} (t : R) (h : blankB c = false) : skipS (c :: t) = c :: t := by unfold skipS; rw [List.dropWhile_cons, h]; rfl
theorem skip_head {r : R} {x : UInt8} {t : R} (h : skipS r = x :: t) : blankB x = false := by
  induction r with
  | nil => cases h
  | cons y r ih =>
    cases hy : blankB y with
    | true => rw [skip_on _ hy] at h; exact ih h
    | false => rw [skip_off _ hy] at h; cases h; exact hy
theorem ins_skip {r r' : R} (h : Ins false r r') : InsE (skipS r) (skipS r') := by
  obtain ⟨a, b, c, rest, rfl, rfl, hb, hc, hs⟩ := h
  induction a with
  | nil => left; rw [List.nil_append, List.nil_append, skip_on _ hb, skip_on _ hc, skip_on _ hb]
  | cons x a ih =>
    cases hx : blankB x with
    | true =>
      rw [List.cons_append, List.cons_append, skip_on _ hx, skip_on _ hx]
      exact ih (by rwa [scan_step (blank_ne hx)] at hs)
    | false =>
      rw [List.cons_append, List.cons_append, skip_off _ hx, skip_off _ hx]
      exact .inr ⟨x :: a, b, c, rest, rfl, rfl, hb, hc, hs⟩
theorem insE_skip {r r' : R} (h : InsE r r') : InsE (skipS r) (skipS r') := by
  rcases h with rfl | h
  · exact .inl rfl
  · exact ins_skip h
/-- A run of bytes that are no blanks. -/
theorem ins_run {p : UInt8 → Bool} (hp : ∀ c, p c = true → c ≠ 34 ∧ blankB c = false) {r r' : R} (h : Ins false r r') : r.takeWhile p = r'.takeWhile p ∧ Ins false (r.dropWhile p) (r'.dropWhile p) := by
  obtain ⟨a, b, c, rest, rfl, rfl, hb, hc, hs⟩ := h
  have hpb : p b = false := by
    cases h : p b with
    | false => rfl
    | true => rw [(hp b h).2] at hb; cases hb
  have hpc : p c = false := by
    cases h : p c with
    | false => rfl
    | true => rw [(hp c h).2] at hc; cases hc
  induction a with
  | nil =>
    simp only [List.nil_append, List.takeWhile_cons, List.dropWhile_cons, hpb, hpc]
    exact ⟨rfl, [], b, c, rest, rfl, rfl, hb, hc, rfl⟩
  | cons x a ih =>
    cases hx : p x with
    | true =>
      simp only [List.cons_append, List.takeWhile_cons, List.dropWhile_cons, hx, if_true]
      obtain ⟨h1, h2⟩ := ih (by rwa [scan_step (hp x hx).1] at hs)
      exact ⟨by rw [h1], h2⟩
    | false =>
      simp only [List.cons_append, List.takeWhile_cons, List.dropWhile_cons, hx]
      exact ⟨rfl, x :: a, b, c, rest, rfl, rfl, hb, hc, hs⟩
theorem insE_run {p : UInt8 → Bool} (hp : ∀ c, p c = true → c ≠ 34 ∧ blankB c = false) {r r' : R} (h : InsE r r') : r.takeWhile p = r'.takeWhile p ∧ InsE (r.dropWhile p) (r'.dropWhile p) := by
  rcases h with rfl | h
  · exact ⟨rfl, .inl rfl⟩
  · exact ⟨(ins_run hp h).1, .inr (ins_run hp h).2⟩
theorem blank_is {c : UInt8} (h : blankB c = true) : c = 9 ∨ c = 10 ∨ c = 13 ∨ c = 32 := of_decide_eq_true h
theorem let_p (c : UInt8) (h : letB c = true) : c ≠ 34 ∧ blankB c = false := by
  refine ⟨by rintro rfl; exact absurd h (by decide), ?_⟩
  cases hb : blankB c with
  | false => rfl
  | true => rcases blank_is hb with rfl | rfl | rfl | rfl <;> exact absurd h (by decide)
theorem dig_p (c : UInt8) (h : digB c = true) : c ≠ 34 ∧ blankB c = false := by
  refine ⟨by rintro rfl; exact absurd h (by decide), ?_⟩
  cases hb : blankB c with
  | false => rfl
  | true => rcases blank_is hb with rfl | rfl | rfl | rfl <;> exact absurd h (by decide)
/-- What stands first, if it is no blank. -/
theorem insE_head {x : UInt8} {t r' : R} (h : InsE (x :: t) r') (hx : blankB x = false) (hq : x ≠ 34) : ∃ t', r' = x :: t' ∧ InsE t t' := by
  rcases h with rfl | h
  · exact ⟨t, rfl, .inl rfl⟩
  · obtain ⟨t', e, h1, _⟩ := ins_head h hx
    exact ⟨t', e, .inr (h1 hq)⟩
theorem insE_nil {r' : R} (h : InsE [] r') : r' = [] := by
  rcases h with h | ⟨a, b, c, rest, e, _⟩
  · exact h.symm
  · cases a <;> cases e
theorem ok2_refl {α : Type} (x : E (α × R)) : Ok2 x x := fun v r h => ⟨r, h, .inl rfl⟩
theorem ok2_bind {α β : Type} {x x' : E (α × R)} {f f' : α × R → E (β × R)} (h : Ok2 x x') (hf : ∀ v r r', x = .ok (v, r) → InsE r r' → Ok2 (f (v, r)) (f' (v, r'))) : Ok2 (x >>= f) (x' >>= f') := by
  intro u s hs
  match x, hs, h, hf with
  | .ok (v, r), hs, h, hf =>
    obtain ⟨r', e, hr⟩ := h v r rfl
    obtain ⟨s', e2, hs'⟩ := hf v r r' rfl hr u s hs
    exact ⟨s', by rw [e]; exact e2, hs'⟩
theorem want_ins {k : UInt8} {r r' t : R} (hk : k ≠ 34) (h : InsE r r') (hw : wantS k r = .ok t) : ∃ t', wantS k r' = .ok t' ∧ InsE t t' := by
  have hs := insE_skip h
  unfold wantS at hw ⊢
  cases hx : skipS r with
  | nil => rw [hx] at hw; cases hw
  | cons x u =>
    rw [hx] at hw hs
    dsimp only at hw
    split at hw
    · rename_i e
      cases hw
      obtain ⟨t', e', ht⟩ := insE_head hs (skip_head hx) (by rw [e]; exact hk)
      rw [e']
      dsimp only
      rw [if_pos e]
      exact ⟨t', rfl, ht⟩
    · cases hw
theorem ok2_want {β : Type} {k : UInt8} {r r' : R} {f f' : R → E (β × R)} (hk : k ≠ 34) (h : InsE r r') (hf : ∀ t t', InsE t t' → Ok2 (f t) (f' t')) : Ok2 (wantS k r >>= f) (wantS k r' >>= f') := by
  intro u s hs
  cases hw : wantS k r with
  | error e => rw [hw] at hs; cases hs
  | ok t =>
    rw [hw] at hs
    obtain ⟨t', e, ht⟩ := want_ins hk h hw
    obtain ⟨s', e2, hs'⟩ := hf t t' ht u s hs
    exact ⟨s', by rw [e]; exact e2, hs'⟩
theorem ok2_end {α : Type} {k : UInt8} {r r' : R} {q : α} (hk : k ≠ 34) (h : InsE r r') : Ok2 (wantS k r >>= fun t => pure (q, t)) (wantS k r' >>= fun t => pure (q, t)) :=
  ok2_want hk h fun t t' ht u s e => by cases e; exact ⟨t', rfl, ht⟩
theorem name_ins {r r' : R} (h : InsE r r') : Ok2 (nameS r) (nameS r') := by
  obtain ⟨h1, h2⟩ := insE_run let_p (insE_skip h)
  intro v s e
  unfold nameS at e ⊢
  rw [← h1]
  split at e
  · rename_i hn
    cases e
    rw [if_pos hn]
    exact ⟨_, rfl, h2⟩
  · cases e
theorem op_ins {r r' : R} (h : InsE r r') : Ok2 (opS r) (opS r') := by
  obtain ⟨h1, h2⟩ := insE_run let_p (insE_skip h)
  intro v s e
  unfold opS at e ⊢
  rw [← h1]
  cases hf : findK opF ((skipS r).takeWhile letB) 3 with
  | none => rw [hf] at e; cases e
  | some k => rw [hf] at e; cases e; exact ⟨_, rfl, h2⟩
theorem kind_ins (d : Nat) {r r' : R} (h : InsE r r') : Ok2 (kindS d r) (kindS d r') := by
  obtain ⟨h1, h2⟩ := insE_run let_p (insE_skip h)
  intro v s e
  unfold kindS at e ⊢
  rw [← h1]
  cases hf : findK wordF ((skipS r).takeWhile letB) 10 with
  | none => rw [hf] at e; cases e
  | some k =>
    rw [hf] at e
    dsimp only at e ⊢
    split at e
    · cases e
    · rename_i hd
      cases e
      rw [if_neg hd]
      exact ⟨_, rfl, h2⟩
section
variable {num : Int → R} {par : R → Option Int}
/-- The sign. -/
theorem sign_ins {f f' : R} (hf : ∀ x t, f = x :: t → blankB x = false) (h : InsE f f') : signS f = signS f' ∧ InsE (restS f) (restS f') := by
  cases f with
  | nil => rw [insE_nil h]; exact ⟨rfl, .inl rfl⟩
  | cons x t =>
    have hx := hf x t rfl
    by_cases hm : x = 45
    · subst hm
      obtain ⟨t', rfl, ht⟩ := insE_head h hx (by decide)
      exact ⟨rfl, ht⟩
    · have hsx : ∀ t : R, signS (x :: t) = [] ∧ restS (x :: t) = x :: t := fun t => by
        unfold signS restS
        rw [List.head?_cons, if_neg (fun e => hm (by injection e)), if_neg (fun e => hm (by injection e))]
        exact ⟨rfl, rfl⟩
      rcases h with rfl | h
      · exact ⟨rfl, .inl rfl⟩
      · obtain ⟨t', rfl, _, _⟩ := ins_head h hx
        rw [(hsx t).1, (hsx t).2, (hsx t').1, (hsx t').2]
        exact ⟨rfl, .inr h⟩
theorem num_ins {r r' : R} (h : InsE r r') : Ok2 (numS num par r) (numS num par r') := by
  obtain ⟨h1, h2⟩ := sign_ins (fun x t e => skip_head e) (insE_skip h)
  obtain ⟨h3, h4⟩ := insE_run dig_p h2
  intro v s e
  unfold numS at e ⊢
  rw [← h1, ← h3]
  split at e
  · cases e
  · rename_i n hp
    split at e
    · rename_i hn
      cases e
      rw [if_pos hn]
      exact ⟨_, rfl, h4⟩
    · cases e
theorem sev_ins : ∀ (m : Nat) {r r' : R}, InsE r r' → r.length < m → Ok2 (sevS num par m r) (sevS num par (m + 1) r')
  | 0, r, r', _, hm => by omega
  | m + 1, r, r', h, hm => by
    intro v s e
    rw [sevS] at e ⊢
    have hn := num_ins (num := num) (par := par) h
    have hf := num_fine (num := num) (par := par) r
    cases hx : numS num par r with
    | error p => rw [hx] at e; cases e
    | ok x =>
      obtain ⟨n, r1⟩ := x
      rw [hx] at e hf
      replace hf : r1.length ≤ r.length := hf
      obtain ⟨r1', e1, hr⟩ := hn n r1 hx
      rw [e1]
      dsimp only at e ⊢
      have hs := insE_skip hr
      have hle := skip_le r1
      cases hk : skipS r1 with
      | nil =>
        rw [hk] at e hs
        cases e
        rw [insE_nil hs]
        exact ⟨[], rfl, .inl rfl⟩
      | cons c t =>
        rw [hk] at e hs hle
        dsimp only at e
        have hcb := skip_head hk
        by_cases hc : ¬ (c = 45 ∨ digB c = true)
        · rw [if_pos hc] at e
          cases e
          have : ∃ t', skipS r1' = c :: t' := by
            rcases hs with hs | hs
            · exact ⟨t, hs.symm⟩
            · obtain ⟨t', e', _⟩ := ins_head hs hcb
              exact ⟨t', e'⟩
          obtain ⟨t', ht'⟩ := this
          rw [ht'] at hs ⊢
          dsimp only
          rw [if_pos hc]
          exact ⟨_, rfl, hs⟩
        · rw [if_neg hc] at e
          by_cases hl : (c :: t).length = r1.length
          · rw [if_pos hl] at e; cases e
          · rw [if_neg hl] at e
            have hc34 : c ≠ 34 := by rintro rfl; exact hc (by decide)
            obtain ⟨t', ht', hti⟩ := insE_head hs hcb hc34
            rw [ht']
            dsimp only
            rw [if_neg hc]
            have hl' : ¬ (c :: t').length = r1'.length := by
              intro he
              -- then nothing was skipped there, and here neither
              have hsk : ∀ (y z : R) (x : UInt8), skipS y = x :: z → (x :: z).length = y.length → y = x :: z := by
                intro y z x hy hz
                cases y with
                | nil => cases hy
                | cons u y =>
                  cases hu : blankB u with
                  | true => rw [skip_on _ hu] at hy; have := skip_le y; rw [hy] at this; simp only [List.length_cons] at this hz; omega
                  | false => rw [skip_off _ hu] at hy; exact hy
              have e2 := hsk _ _ _ ht' he
              rcases hr with hr | ⟨a, b, c', rest, ha, hb, hbb, hcc, _⟩
              · apply hl
                rw [← hk, hr, ht']
                exact he
              · cases a with
                | nil => rw [hb, List.nil_append] at e2; injection e2 with e3 _; rw [← e3, hcc] at hcb; cases hcb
                | cons y a =>
                  rw [hb, List.cons_append] at e2
                  injection e2 with e3 _
                  subst e3
                  rw [ha, List.cons_append, skip_off _ hcb] at hk
                  apply hl
                  rw [ha, List.cons_append, ← hk]
            rw [if_neg hl']
            have ih := sev_ins m (r := c :: t) (r' := c :: t') (by rw [← ht']; exact hs) (by omega)
            cases hy : sevS num par m (c :: t) with
            | error p => rw [hy] at e; cases e
            | ok y =>
              obtain ⟨l, r2⟩ := y
              rw [hy] at e
              cases e
              obtain ⟨r2', e3, h3⟩ := ih l s hy
              rw [e3]
              exact ⟨r2', rfl, h3⟩
end
theorem nib_ne {c : UInt8} {x : Nat} (h : nibS c = some x) : c ≠ 34 ∧ c ≠ 92 := by
  refine ⟨?_, ?_⟩ <;> (rintro rfl; exact absurd h (by rw [show nibS _ = none from by decide]; simp))
theorem scan_true {c : UInt8} {t : R} (h1 : c ≠ 34) (h2 : c ≠ 92) : scanS true (c :: t) = scanS true t := by rw [scanS.eq_def]; dsimp only; rw [if_neg h2, if_neg h1]
theorem str_ins (p p' : Nat) : ∀ (n : Nat) {r r' : R}, r.length ≤ n → Ins true r r' → ∀ v s, strS p r = .ok (v, s) → ∃ s', strS p' r' = .ok (v, s') ∧ Ins false s s'
  | n, r, r', hn, ⟨[], b, c, rest, e, e', hb, hc, hs⟩, v, s, h => by cases hs
  | 0, r, r', hn, ⟨x :: a, b, c, rest, e, e', hb, hc, hs⟩, v, s, h => by rw [e] at hn; simp at hn
  | n + 1, r, r', hn, ⟨x :: a, b, c, rest, e, e', hb, hc, hs⟩, v, s, h => by
    subst e e'
    simp only [List.cons_append, List.length_cons] at hn
    have hpush : ∀ (d : UInt8) (y y' : R), y.length ≤ n → Ins true y y' → pushS d (strS p y) = .ok (v, s) → ∃ s', pushS d (strS p' y') = .ok (v, s') ∧ Ins false s s' := by
      intro d y y' hy hi hp
      cases hx : strS p y with
      | error q => rw [hx] at hp; cases hp
      | ok z =>
        obtain ⟨u, s1⟩ := z
        rw [hx] at hp
        cases hp
        obtain ⟨s', e1, h1⟩ := str_ins p p' n hy hi _ s hx
        rw [e1]
        exact ⟨s', rfl, h1⟩
    rw [List.cons_append, strS.eq_def] at h
    rw [List.cons_append, strS.eq_def]
    dsimp only at h ⊢
    by_cases h34 : x = 34
    · rw [if_pos h34] at h ⊢
      cases h
      subst h34
      rw [scanS.eq_def] at hs
      dsimp only at hs
      rw [if_neg (by decide), if_pos rfl] at hs
      exact ⟨_, rfl, a, b, c, rest, rfl, rfl, hb, hc, hs⟩
    · rw [if_neg h34] at h ⊢
      by_cases h10 : x = 10
      · rw [if_pos h10] at h; cases h
      · rw [if_neg h10] at h ⊢
        by_cases h92 : x ≠ 92
        · rw [if_pos h92] at h ⊢
          exact hpush x _ _ (by omega) ⟨a, b, c, rest, rfl, rfl, hb, hc, by rwa [scan_true h34 h92] at hs⟩ h
        · rw [if_neg h92] at h ⊢
          have hx : x = 92 := Classical.not_not.1 h92
          subst hx
          rw [scanS.eq_def] at hs
          dsimp only at hs
          rw [if_pos rfl] at hs
          cases a with
          | nil => cases hs
          | cons d a =>
            dsimp only [List.cons_append] at h hs ⊢
            simp only [List.cons_append, List.length_cons] at hn
            by_cases hd : d = 34 ∨ d = 92
            · rw [if_pos hd] at h ⊢
              exact hpush d _ _ (by omega) ⟨a, b, c, rest, rfl, rfl, hb, hc, hs⟩ h
            · rw [if_neg hd] at h ⊢
              cases a with
              | nil => cases hs
              | cons y a =>
                cases a with
                | nil =>
                  dsimp only [List.cons_append, List.nil_append] at h
                  have : y = 34 := by
                    rw [scanS.eq_def] at hs
                    dsimp only at hs
                    split at hs
                    · cases hs
                    · split at hs
                      · assumption
                      · cases hs
                  subst this
                  have h0 : nibS 34 = none := by decide
                  rw [h0] at h
                  cases h
                | cons z a =>
                  dsimp only [List.cons_append] at h ⊢
                  simp only [List.cons_append, List.length_cons] at hn
                  cases hy : nibS y with
                  | none => rw [hy] at h; cases h
                  | some i =>
                    cases hz : nibS z with
                    | none => rw [hy, hz] at h; cases h
                    | some j =>
                      rw [hy, hz] at h
                      dsimp only at h ⊢
                      by_cases hxd : d = 120
                      · rw [if_pos hxd] at h ⊢
                        rw [scan_true (nib_ne hy).1 (nib_ne hy).2, scan_true (nib_ne hz).1 (nib_ne hz).2] at hs
                        exact hpush _ _ _ (by omega) ⟨a, b, c, rest, rfl, rfl, hb, hc, hs⟩ h
                      · rw [if_neg hxd] at h; cases h
theorem text_ins {r r' : R} (h : InsE r r') : Ok2 (textS r) (textS r') := by
  rcases h with rfl | h
  · exact ok2_refl _
  · intro v s e
    unfold textS at e ⊢
    have hs := ins_skip h
    cases hw : wantS 34 r with
    | error p => rw [hw] at e; cases e
    | ok t =>
      rw [hw] at e
      dsimp only at e
      have hw0 := hw
      unfold wantS at hw
      cases hx : skipS r with
      | nil => rw [hx] at hw; cases hw
      | cons x u =>
        rw [hx] at hw hs
        dsimp only at hw
        split at hw
        · rename_i ex
          cases hw
          subst ex
          rcases hs with hs | hs
          · have : wantS 34 r' = .ok t := by unfold wantS; rw [← hs]; exact if_pos rfl
            rw [this]
            dsimp only
            rw [← hs, ← hx]
            exact ⟨s, e, .inl rfl⟩
          · obtain ⟨u', eu, _, hi⟩ := ins_head hs (by decide)
            have : wantS 34 r' = .ok u' := by unfold wantS; rw [eu]; exact if_pos rfl
            rw [this]
            dsimp only
            cases hy : strS (skipS r).length t with
            | error p => rw [hy] at e; cases e
            | ok y =>
              obtain ⟨b, s1⟩ := y
              rw [hy] at e
              cases e
              obtain ⟨s', e1, h1⟩ := str_ins _ (skipS r').length t.length (Nat.le_refl _) (hi rfl) b s hy
              rw [e1]
              exact ⟨s', rfl, .inr h1⟩
        · cases hw
theorem mark_ne {c : UInt8} (h : markI c ≠ 0) : c ≠ 34 := by rintro rfl; exact h (by decide)
theorem clause_ins {qs : R → E (QT × R)} (hq : ∀ t t', InsE t t' → Ok2 (qs t) (qs t')) (hf : ∀ t, Fine t.length (qs t)) : ∀ (m : Nat) {r r' : R}, InsE r r' → r.length < m → Ok2 (clauseS qs m r) (clauseS qs (m + 1) r')
  | 0, r, r', _, hm => by omega
  | m + 1, r, r', h, hm => by
    intro v s e
    rw [clauseS] at e ⊢
    have hs := insE_skip h
    have hle := skip_le r
    cases hk : skipS r with
    | nil => rw [hk] at e; cases e
    | cons c t =>
      rw [hk] at e hs hle
      simp only [List.length_cons] at hle
      dsimp only at e
      by_cases hm0 : markI c = 0
      · rw [if_pos hm0] at e; cases e
      · rw [if_neg hm0] at e
        obtain ⟨t', ht', hti⟩ := insE_head hs (skip_head hk) (mark_ne hm0)
        rw [ht']
        dsimp only
        rw [if_neg hm0]
        have hft := hf t
        cases hx : qs t with
        | error p => rw [hx] at e; cases e
        | ok x =>
          obtain ⟨k, r1⟩ := x
          rw [hx] at e hft
          replace hft : r1.length ≤ t.length := hft
          obtain ⟨r1', e1, h1⟩ := hq t t' hti k r1 hx
          rw [e1]
          dsimp only at e ⊢
          have hs1 := insE_skip h1
          have hle1 := skip_le r1
          by_cases h44 : ∃ r3, skipS r1 = 44 :: r3
          · obtain ⟨r3, hr3⟩ := h44
            rw [hr3] at e hs1 hle1
            simp only [List.length_cons] at hle1
            obtain ⟨r3', hr3', hi3⟩ := insE_head hs1 (by decide) (by decide)
            rw [hr3']
            replace e : (match clauseS qs m r3 with
              | .error e => .error e
              | .ok (ks, r4) => .ok (setOc (markI c) k :: ks, r4) : E (List QT × R)) = .ok (v, s) := e
            show ∃ r', (match clauseS qs (m + 1) r3' with
              | .error e => .error e
              | .ok (ks, r4) => .ok (setOc (markI c) k :: ks, r4) : E (List QT × R)) = .ok (v, r') ∧ InsE s r'
            cases hy : clauseS qs m r3 with
            | error p => rw [hy] at e; cases e
            | ok y =>
              obtain ⟨ks, r4⟩ := y
              rw [hy] at e
              cases e
              obtain ⟨r4', e2, h2⟩ := clause_ins hq hf m hi3 (by omega) ks s hy
              rw [e2]
              exact ⟨r4', rfl, h2⟩
          · have hne : ∀ r3, skipS r1' ≠ 44 :: r3 := by
              intro r3 he
              rw [he] at hs1
              rcases hs1 with hs1 | ⟨a, b, c', rest, ha, hb, hbb, hcc, _⟩
              · exact h44 ⟨r3, hs1⟩
              · cases a with
                | nil => rw [List.nil_append] at hb; injection hb with hb _; rw [← hb] at hcc; revert hcc; decide
                | cons y a => rw [List.cons_append] at hb ha; injection hb with hb _; subst hb; exact h44 ⟨_, ha⟩
            split at e
            · rename_i r3 hr3; exact absurd ⟨r3, hr3⟩ h44
            · cases e
              exact ⟨_, rfl, hs1⟩
section
variable {num : Int → R} {par : R → Option Int}
theorem sev_ins' {r r' : R} (h : InsE r r') : Ok2 (sevS num par (r.length + 1) r) (sevS num par (r'.length + 1) r') := by
  have hl : r'.length ≤ r.length + 1 := by
    rcases h with rfl | ⟨a, b, c, rest, rfl, rfl, _⟩
    · omega
    · simp only [List.length_append, List.length_cons]; omega
  have := sev_ins (num := num) (par := par) (r.length + 1) h (Nat.lt_succ_self _)
  rwa [sev_fuel (r.length + 1 + 1) (r'.length + 1) r' (by omega) (by omega)] at this
theorem clause_ins' {qs : R → E (QT × R)} (hq : ∀ t t', InsE t t' → Ok2 (qs t) (qs t')) (hf : ∀ t, Fine t.length (qs t)) {r r' : R} (h : InsE r r') : Ok2 (clauseS qs (r.length + 1) r) (clauseS qs (r'.length + 1) r') := by
  have hl : r'.length ≤ r.length + 1 := by
    rcases h with rfl | ⟨a, b, c, rest, rfl, rfl, _⟩
    · omega
    · simp only [List.length_append, List.length_cons]; omega
  have := clause_ins hq hf (r.length + 1) h (Nat.lt_succ_self _)
  rwa [clause_fuel hf (r.length + 1 + 1) (r'.length + 1) r' (by omega) (by omega)] at this
theorem body_ins {qs : R → E (QT × R)} (hq : ∀ t t', InsE t t' → Ok2 (qs t) (qs t')) (hf : ∀ t, Fine t.length (qs t)) (k : Int) {r r' : R} (h : InsE r r') : Ok2 (bodyS num par qs k r) (bodyS num par qs k r') := by
  unfold bodyS
  by_cases h8 : k = 8
  · rw [if_pos h8, if_pos h8]
    have hs := insE_skip h
    by_cases h41 : ∃ t, skipS r = 41 :: t
    · obtain ⟨t, ht⟩ := h41
      rw [ht] at hs ⊢
      obtain ⟨t', ht', hi⟩ := insE_head hs (by decide) (by decide)
      rw [ht']
      intro v s e
      cases e
      exact ⟨t', rfl, hi⟩
    · have hne : ∀ t, skipS r' ≠ 41 :: t := by
        intro t he
        rw [he] at hs
        rcases hs with hs | ⟨a, b, c', rest, ha, hb, hbb, hcc, _⟩
        · exact h41 ⟨t, hs⟩
        · cases a with
          | nil => rw [List.nil_append] at hb; injection hb with hb _; rw [← hb] at hcc; revert hcc; decide
          | cons y a => rw [List.cons_append] at hb ha; injection hb with hb _; subst hb; exact h41 ⟨_, ha⟩
      split
      · rename_i t ht; exact absurd ⟨t, ht⟩ h41
      · exact ok2_bind (clause_ins' hq hf h) fun ks r1 r1' _ h1 => ok2_end (by decide) h1
  · rw [if_neg h8, if_neg h8]
    by_cases h9 : k = 9
    · rw [if_pos h9, if_pos h9]
      refine ok2_bind (num_ins h) fun b r1 r1' _ h1 => ?_
      dsimp only
      by_cases hb : b < 0 ∨ 1048576 < b
      · rw [if_pos hb]; intro v s e; cases e
      · rw [if_neg hb, if_neg hb]
        refine ok2_want (by decide) h1 fun t t' ht => ?_
        exact ok2_bind (hq t t' ht) fun q r3 r3' _ h3 => ok2_end (by decide) h3
    · rw [if_neg h9, if_neg h9]
      by_cases h10 : k = 10
      · rw [if_pos h10, if_pos h10]
        refine ok2_bind (op_ins h) fun o r1 r1' _ h1 => ?_
        refine ok2_want (by decide) h1 fun r2 r2' h2 => ?_
        refine ok2_bind (name_ins h2) fun f r3 r3' _ h3 => ?_
        refine ok2_want (by decide) h3 fun r4 r4' h4 => ?_
        refine ok2_bind (num_ins h4) fun n r5 r5' _ h5 => ?_
        refine ok2_want (by decide) h5 fun r6 r6' h6 => ?_
        exact ok2_bind (hq r6 r6' h6) fun q r7 r7' _ h7 => ok2_end (by decide) h7
      · rw [if_neg h10, if_neg h10]
        by_cases h7 : k = 7
        · rw [if_pos h7, if_pos h7]
          refine ok2_bind (name_ins h) fun f r1 r1' _ h1 => ?_
          refine ok2_want (by decide) h1 fun r2 r2' h2 => ?_
          refine ok2_bind (sev_ins' h2) fun lo r3 r3' _ h3 => ?_
          refine ok2_want (by decide) h3 fun r4 r4' h4 => ?_
          refine ok2_bind (sev_ins' h4) fun hi r5 r5' _ h5 => ?_
          dsimp only
          by_cases hl : lo.length ≠ hi.length ∨ 4 < lo.length
          · rw [if_pos hl]; intro v s e; cases e
          · rw [if_neg hl, if_neg hl]
            exact ok2_end (by decide) h5
        · rw [if_neg h7, if_neg h7]
          refine ok2_bind (name_ins h) fun f r1 r1' _ h1 => ?_
          refine ok2_want (by decide) h1 fun r2 r2' h2 => ?_
          refine ok2_bind (text_ins h2) fun t r3 r3' _ h3 => ?_
          dsimp only
          by_cases h6 : k = 6
          · rw [if_pos h6, if_pos h6]
            refine ok2_want (by decide) h3 fun r4 r4' h4 => ?_
            exact ok2_bind (text_ins h4) fun u r5 r5' _ h5 => ok2_end (by decide) h5
          · rw [if_neg h6, if_neg h6]
            exact ok2_end (by decide) h3
theorem query_ins : ∀ (d : Nat) {r r' : R}, InsE r r' → Ok2 (queryS num par d r) (queryS num par d r')
  | 0, r, r', h => by intro v s e; rw [queryS] at e; split at e <;> cases e
  | d + 1, r, r', h => by
    intro v s e
    rw [queryS] at e ⊢
    have hk := kind_ins (d + 1) h
    cases hx : kindS (d + 1) r with
    | error p => rw [hx] at e; cases e
    | ok x =>
      obtain ⟨k, r1⟩ := x
      obtain ⟨r1', e1, h1⟩ := hk k r1 hx
      rw [hx] at e
      rw [e1]
      dsimp only at e ⊢
      by_cases hk12 : k = 1 ∨ k = 2
      · rw [if_pos hk12] at e ⊢
        cases e
        exact ⟨r1', rfl, h1⟩
      · rw [if_neg hk12] at e ⊢
        cases hw : wantS 40 r1 with
        | error p => rw [hw] at e; cases e
        | ok r2 =>
          rw [hw] at e
          obtain ⟨r2', e2, h2⟩ := want_ins (by decide) h1 hw
          rw [e2]
          exact body_ins (fun t t' ht => query_ins d ht) (fun t => query_fine d t) k h2 v s e
/-- ONE MORE BLANK BESIDE BLANKS. -/
theorem parse_blank {a rest : R} {b c : UInt8} {q : QT} (h : parseS num par (a ++ b :: rest) = .ok q) (hb : blankB b = true) (hc : blankB c = true) (hs : scanS false a = false) (hl : (a ++ b :: rest).length < 4096) : parseS num par (a ++ c :: b :: rest) = .ok q := by
  have hi : InsE (a ++ b :: rest) (a ++ c :: b :: rest) := .inr ⟨a, b, c, rest, rfl, rfl, hb, hc, hs⟩
  have hq := query_ins (num := num) (par := par) 6 hi
  unfold parseS at h ⊢
  rw [if_neg (by omega)] at h
  rw [if_neg (by simp only [List.length_append, List.length_cons] at hl ⊢; omega)]
  cases hx : queryS num par 6 (a ++ b :: rest) with
  | error e => rw [hx] at h; cases h
  | ok x =>
    obtain ⟨q', r1⟩ := x
    obtain ⟨r1', e1, h1⟩ := hq q' r1 hx
    rw [hx] at h
    rw [e1]
    dsimp only at h ⊢
    have hs1 := insE_skip h1
    cases hk : skipS r1 with
    | nil => rw [hk] at h hs1; cases h; rw [insE_nil hs1]
    | cons x t => rw [hk] at h; cases h
end
end QryP
