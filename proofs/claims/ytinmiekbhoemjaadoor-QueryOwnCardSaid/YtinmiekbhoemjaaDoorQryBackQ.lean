/- What is written is read again, in plain Lean: a formed query from its text, unless it is too deep. -/
import Derived.Test.YtinmiekbhoemjaaDoorQryBackP
namespace QryP
open SchP

section
variable {num : Int → R} {par : R → Option Int} {I : Int → Prop}
mutual
def numsIn (I : Int → Prop) : QT → Prop
  | .mk _ _ _ _ _ l h b _ ks => (∀ z ∈ l, I z) ∧ (∀ z ∈ h, I z) ∧ I b ∧ numsInL I ks
def numsInL (I : Int → Prop) : List QT → Prop
  | [] => True
  | q :: qs => numsIn I q ∧ numsInL I qs
end
/-- Read, or too deep. -/
def Reads (num : Int → R) (par : R → Option Int) (d : Nat) (q : QT) (rest : R) : Prop :=
  (depthF q ≤ d → queryS num par d (writeF num q ++ rest) = .ok (setOc 0 q, rest)) ∧ (d < depthF q → ∃ p, queryS num par d (writeF num q ++ rest) = .error (p, 182))
theorem emp_of {s : ByteArray} (h : s.size = 0) : s = emp := by
  apply ByteArray.ext
  exact Array.eq_empty_of_size_eq_zero h
theorem nil_of {α : Type} {l : List α} (h : l.length = 0) : l = [] := List.eq_nil_of_length_eq_zero h
theorem setOc_mark {q : QT} (h : 1 ≤ oc q ∧ oc q ≤ 4) : ∃ c, markF (oc q) = [c] ∧ blankB c = false ∧ c ≠ 41 ∧ markI c ≠ 0 ∧ setOc (markI c) (setOc 0 q) = q := by
  obtain ⟨k, o, f, t, u, l, hh, b, p, ks⟩ := q
  simp only [oc] at h
  have : o = 1 ∨ o = 2 ∨ o = 3 ∨ o = 4 := by omega
  rcases this with rfl | rfl | rfl | rfl
  · exact ⟨43, rfl, rfl, by decide, by decide, rfl⟩
  · exact ⟨63, rfl, rfl, by decide, by decide, rfl⟩
  · exact ⟨45, rfl, rfl, by decide, by decide, rfl⟩
  · exact ⟨61, rfl, rfl, by decide, by decide, rfl⟩
theorem own_oc {q : QT} {u : Int} (h : ownB q u = true) : (u = 8 → 1 ≤ oc q ∧ oc q ≤ 4) ∧ (u ≠ 8 → oc q = 0) := by
  simp only [ownB, Bool.and_eq_true] at h
  have h1 := h.1.1.1.1.1.1.1.1
  refine ⟨fun e => ?_, fun e => ?_⟩
  · rw [if_pos e] at h1; exact of_decide_eq_true h1
  · rw [if_neg e] at h1; exact of_decide_eq_true h1
theorem setOc_zero {q : QT} (h : oc q = 0) : setOc 0 q = q := by cases q; simp only [oc] at h; subst h; rfl
theorem writeL_join (num : Int → R) (k : QT) {ks : List QT} (h : ks ≠ []) : joinF [44, 32] (writeL num (k :: ks)) = markF (oc k) ++ writeF num k ++ 44 :: 32 :: joinF [44, 32] (writeL num ks) := by
  rw [writeL, joinF_cons _ _ (by cases ks with
    | nil => exact absurd rfl h
    | cons => simp [writeL])]
  simp
section
variable {qs : R → E (QT × R)} {m : Nat} {r t rest : R} {c : UInt8} {k : QT}
theorem clause_last (h1 : skipS r = c :: t) (h2 : markI c ≠ 0) (h3 : qs t = .ok (k, 41 :: rest)) : clauseS qs (m + 1) r = .ok ([setOc (markI c) k], 41 :: rest) := by
  unfold clauseS
  rw [h1]
  dsimp only
  rw [if_neg h2, h3]
  rfl
theorem clause_more (h1 : skipS r = c :: t) (h2 : markI c ≠ 0) (h3 : qs t = .ok (k, 44 :: rest)) : clauseS qs (m + 1) r = match clauseS qs m rest with
    | .error e => .error e
    | .ok (ks, r4) => .ok (setOc (markI c) k :: ks, r4) := by
  rw [clauseS, h1]
  dsimp only
  rw [if_neg h2, h3]
  rfl
theorem clause_err {e : Nat × Int} (h1 : skipS r = c :: t) (h2 : markI c ≠ 0) (h3 : qs t = .error e) : clauseS qs (m + 1) r = .error e := by
  unfold clauseS
  rw [h1]
  dsimp only
  rw [if_neg h2, h3]
end
/-- What an own part tells. -/
theorem own_facts {k o : Int} {f t u : ByteArray} {l h : List Int} {b p : Int} {ks : List QT} {under : Int} (hw : ownB (.mk k o f t u l h b p ks) under = true) :
    (1 ≤ k ∧ k ≤ 10) ∧ ((3 ≤ k ∧ k ≤ 7 ∨ k = 10) → nameB f = true) ∧ (¬ (3 ≤ k ∧ k ≤ 7 ∨ k = 10) → f = emp) ∧ (¬ (3 ≤ k ∧ k ≤ 6) → t = emp) ∧ (k ≠ 6 → u = emp) ∧ (k = 7 → 1 ≤ l.length ∧ l.length ≤ 4 ∧ h.length = l.length) ∧ (k = 10 → l.length = 1 ∧ h = [])
    ∧ (k ≠ 7 → k ≠ 10 → l = [] ∧ h = []) ∧ (k = 9 → 0 ≤ b ∧ b ≤ 1048576) ∧ (k ≠ 9 → b = 0) ∧ (k = 10 → 1 ≤ p ∧ p ≤ 3) ∧ (k ≠ 10 → p = 0) ∧ ((k = 9 ∨ k = 10) → ks.length = 1) ∧ (k ≠ 8 → ¬ (k = 9 ∨ k = 10) → ks = []) := by
  have h' : ((((((((if under = 8 then decide (1 ≤ o ∧ o ≤ 4) else decide (o = 0)) && decide (1 ≤ k ∧ k ≤ 10)) && (if 3 ≤ k ∧ k ≤ 7 ∨ k = 10 then nameB f else decide (f.size = 0)))
    && (decide (3 ≤ k ∧ k ≤ 6) || decide (t.size = 0))) && (decide (k = 6) || decide (u.size = 0)))
    && (if k = 7 then decide (1 ≤ l.length ∧ l.length ≤ 4 ∧ h.length = l.length) else if k = 10 then decide (l.length = 1 ∧ h.length = 0) else decide (l.length = 0 ∧ h.length = 0)))
    && (if k = 9 then decide (0 ≤ b ∧ b ≤ 1048576) else decide (b = 0)))
    && (if k = 10 then decide (1 ≤ p ∧ p ≤ 3) else decide (p = 0))
    && (if k = 9 ∨ k = 10 then decide (ks.length = 1) else decide (k = 8) || decide (ks.length = 0))) = true := hw
  simp only [Bool.and_eq_true] at h'
  obtain ⟨⟨⟨⟨⟨⟨⟨⟨_, hk⟩, hfd⟩, htx⟩, hup⟩, hnum⟩, hbo⟩, hop⟩, hkd⟩ := h'
  refine ⟨of_decide_eq_true hk, fun e => ?_, fun e => ?_, fun e => ?_, fun e => ?_, fun e => ?_, fun e => ?_, fun e e' => ?_, fun e => ?_, fun e => ?_, fun e => ?_, fun e => ?_, fun e => ?_, fun e e' => ?_⟩
  · rwa [if_pos e] at hfd
  · rw [if_neg e] at hfd; exact emp_of (of_decide_eq_true hfd)
  · rw [decide_eq_false e, Bool.false_or] at htx; exact emp_of (of_decide_eq_true htx)
  · rw [decide_eq_false e, Bool.false_or] at hup; exact emp_of (of_decide_eq_true hup)
  · rw [if_pos e] at hnum; exact of_decide_eq_true hnum
  · rw [if_neg (by omega), if_pos e] at hnum; have := of_decide_eq_true hnum; exact ⟨this.1, nil_of this.2⟩
  · rw [if_neg e, if_neg e'] at hnum; have := of_decide_eq_true hnum; exact ⟨nil_of this.1, nil_of this.2⟩
  · rw [if_pos e] at hbo; exact of_decide_eq_true hbo
  · rw [if_neg e] at hbo; exact of_decide_eq_true hbo
  · rw [if_pos e] at hop; exact of_decide_eq_true hop
  · rw [if_neg e] at hop; exact of_decide_eq_true hop
  · rw [if_pos e] at hkd; exact of_decide_eq_true hkd
  · rw [if_neg e', decide_eq_false e, Bool.false_or] at hkd; exact nil_of (of_decide_eq_true hkd)
/-- The kids of a bool are read, or one is too deep. -/
theorem clause_read {d : Nat} (ih : ∀ (q : QT) (u : Int) (rest : R), formedB u q = true → numsIn I q → Stop rest → Reads num par d q rest) (rest : R) : ∀ {ks : List QT} {m : Nat}, ks ≠ [] → formedL 8 ks = true → numsInL I ks → ks.length < m →
    (depthL ks ≤ d → clauseS (queryS num par d) m (joinF [44, 32] (writeL num ks) ++ 41 :: rest) = .ok (ks, 41 :: rest)) ∧ (d < depthL ks → ∃ p, clauseS (queryS num par d) m (joinF [44, 32] (writeL num ks) ++ 41 :: rest) = .error (p, 182))
  | [], _, h, _, _, _ => absurd rfl h
  | _ :: _, 0, _, _, _, hm => by omega
  | [k], m + 1, _, hf, hn, hm => by
    simp only [formedL, Bool.and_true] at hf
    simp only [numsInL, and_true] at hn
    have hown := hf
    rw [formedB_eq, Bool.and_eq_true] at hown
    obtain ⟨c, hc, hb, _, hmk, hset⟩ := setOc_mark ((own_oc hown.1).1 rfl)
    have hR := ih k 8 (41 :: rest) hf hn (stop_close _)
    have e : joinF [44, 32] (writeL num [k]) ++ 41 :: rest = c :: (writeF num k ++ 41 :: rest) := by
      simp [writeL, joinF, hc]
    rw [e]
    simp only [depthL, Nat.max_zero]
    refine ⟨fun hd => ?_, fun hd => ?_⟩
    · rw [clause_last (skip_cons _ hb) hmk (hR.1 hd), hset]
    · obtain ⟨p, hp⟩ := hR.2 hd
      exact ⟨p, clause_err (skip_cons _ hb) hmk hp⟩
  | k :: k2 :: ks, m + 1, _, hf, hn, hm => by
    rw [formedL, Bool.and_eq_true] at hf
    rw [numsInL] at hn
    have hown := hf.1
    rw [formedB_eq, Bool.and_eq_true] at hown
    obtain ⟨c, hc, hb, _, hmk, hset⟩ := setOc_mark ((own_oc hown.1).1 rfl)
    have hR := ih k 8 (44 :: 32 :: (joinF [44, 32] (writeL num (k2 :: ks)) ++ 41 :: rest)) hf.1 hn.1 (stop_comma _)
    obtain ⟨h1, h2⟩ := clause_read ih rest (ks := k2 :: ks) (m := m) (by simp) hf.2 hn.2 (by simp at hm ⊢; omega)
    have hbl : ∀ r, clauseS (queryS num par d) m (32 :: r) = clauseS (queryS num par d) m r := by intro r; cases m <;> rfl
    have e : joinF [44, 32] (writeL num (k :: k2 :: ks)) ++ 41 :: rest = c :: (writeF num k ++ 44 :: 32 :: (joinF [44, 32] (writeL num (k2 :: ks)) ++ 41 :: rest)) := by
      rw [writeL_join _ _ (by simp), hc]; simp
    rw [e, show depthL (k :: k2 :: ks) = max (depthF k) (depthL (k2 :: ks)) from rfl]
    refine ⟨fun hd => ?_, fun hd => ?_⟩
    · rw [clause_more (skip_cons _ hb) hmk (hR.1 (by omega)), hbl, h1 (by omega), hset]
    · by_cases hk : depthF k ≤ d
      · obtain ⟨p, hp⟩ := h2 (by omega)
        rw [clause_more (skip_cons _ hb) hmk (hR.1 hk), hbl, hp]
        exact ⟨p, rfl⟩
      · obtain ⟨p, hp⟩ := hR.2 (by omega)
        exact ⟨p, clause_err (skip_cons _ hb) hmk hp⟩
theorem len_write_kids (num : Int → R) : ∀ ks : List QT, ks.length ≤ (joinF [44, 32] (writeL num ks)).length + 1
  | [] => by simp
  | [k] => by simp
  | k :: k2 :: ks => by
    have := len_write_kids num (k2 :: ks)
    rw [writeL_join _ _ (by simp)]
    simp only [List.length_append, List.length_cons] at *
    omega
theorem body_bool {qs : R → E (QT × R)} {r : R} (h : ∀ y, skipS r = 41 :: y → False) : bodyS num par qs 8 r = match clauseS qs (r.length + 1) r with
    | .error e => .error e
    | .ok (ks, r1) => match wantS 41 r1 with
      | .error e => .error e
      | .ok r2 => .ok (.mk 8 0 emp emp emp [] [] 0 0 ks, r2) := by
  rw [bodyS, if_pos rfl]
  split
  · rename_i y hy; exact absurd hy (h y)
  · cases clauseS qs (r.length + 1) r with
    | error e => rfl
    | ok x =>
      obtain ⟨ks, r1⟩ := x
      simp only [bind, Except.bind, pure, Except.pure]
      cases wantS 41 r1 <;> rfl
set_option maxHeartbeats 4000000 in
/-- A FORMED QUERY IS READ AGAIN FROM ITS TEXT, OR IT IS TOO DEEP. -/
theorem read_write (N : NumLaw num par I) : ∀ (d : Nat) (q : QT) (u : Int) (rest : R), formedB u q = true → numsIn I q → Stop rest → Reads num par d q rest := by
  intro d
  induction d with
  | zero =>
    intro q u rest hf hn hr
    rw [formedB_eq, Bool.and_eq_true] at hf
    have hk : 1 ≤ kd q ∧ kd q ≤ 10 := by
      have := hf.1
      simp only [ownB, Bool.and_eq_true] at this
      exact of_decide_eq_true this.1.1.1.1.1.1.1.2
    have hpos : 1 ≤ depthF q := by rw [depthF_eq]; omega
    refine ⟨fun h => by omega, fun _ => ?_⟩
    have : ∃ x, writeF num q ++ rest = wordF (kd q) ++ x ∧ x.takeWhile letB = [] ∧ x.dropWhile letB = x := by
      rw [writeF_eq]
      split
      · exact ⟨rest, rfl, hr.let⟩
      · exact ⟨_, by rw [List.append_assoc], rfl, rfl⟩
    obtain ⟨x, e, h1, h2⟩ := this
    rw [e, queryS, word_read hk ⟨h1, h2⟩, if_pos rfl]
    exact ⟨_, rfl⟩
  | succ d ih =>
    intro q u rest hf hn hr
    obtain ⟨k, o, f, t, up', l, h, b, p, ks⟩ := q
    rw [formedB_eq, Bool.and_eq_true] at hf
    obtain ⟨hown, hkids⟩ := hf
    replace hkids : formedL k ks = true := hkids
    rw [numsIn] at hn
    obtain ⟨hnl, hnh, hnb, hnk⟩ := hn
    obtain ⟨hk, F1, F2, F3, F4, F5, F6, F7, F8, F9, F10, F11, F12, F13⟩ := own_facts hown
    have hdep : depthF (.mk k o f t up' l h b p ks) = depthL ks + 1 := by rw [depthF]
    unfold Reads
    rw [hdep]
    have hcases : k = 1 ∨ k = 2 ∨ k = 3 ∨ k = 4 ∨ k = 5 ∨ k = 6 ∨ k = 7 ∨ k = 8 ∨ k = 9 ∨ k = 10 := by omega
    have hw : (k = 1 ∨ k = 2) ∨ ¬ (k = 1 ∨ k = 2) := by omega
    rw [writeF]
    rcases hw with hw | hw
    · rw [if_pos hw, queryS, word_read hk hr.let, if_neg (by omega)]
      dsimp only
      rw [if_pos hw]
      have e1 := F2 (by omega)
      have e2 := F3 (by omega)
      have e3 := F4 (by omega)
      have e4 := F7 (by omega) (by omega)
      have e5 := F9 (by omega)
      have e6 := F11 (by omega)
      have e7 := F13 (by omega) (by omega)
      obtain ⟨rfl, rfl⟩ := e4
      subst e1 e2 e3 e5 e6 e7
      exact ⟨fun _ => rfl, fun hd => by simp [depthL] at hd⟩
    · rw [if_neg hw]
      have hword : ∀ x : R, queryS num par (d + 1) (wordF k ++ 40 :: x) = bodyS num par (queryS num par d) k x := by
        intro x
        rw [queryS, word_read hk ⟨rfl, rfl⟩, if_neg (by omega)]
        dsimp only
        rw [if_neg hw, want_open]
      rw [List.append_assoc, List.cons_append, hword]
      have hk5 : k = 8 ∨ k = 9 ∨ k = 10 ∨ k = 7 ∨ k = 6 ∨ (k = 3 ∨ k = 4 ∨ k = 5) := by omega
      rcases hk5 with rfl | rfl | rfl | rfl | rfl | hk3
      · -- bool
        have e1 := F2 (by omega)
        have e2 := F3 (by omega)
        have e3 := F4 (by omega)
        have e4 := F7 (by omega) (by omega)
        have e5 := F9 (by omega)
        have e6 := F11 (by omega)
        obtain ⟨rfl, rfl⟩ := e4
        subst e1 e2 e3 e5 e6
        rw [show piecesF num (.mk 8 o emp emp emp [] [] 0 0 ks) = [] from rfl, List.nil_append]
        by_cases hks : ks = []
        · subst hks
          exact ⟨fun _ => rfl, fun hd => by simp [depthL] at hd⟩
        · obtain ⟨c1, c2⟩ := clause_read (num := num) (par := par) (I := I) ih rest (ks := ks) (m := ((joinF [44, 32] (writeL num ks) ++ [41]) ++ rest).length + 1) hks hkids hnk (by
            have := len_write_kids num ks
            simp only [List.length_append, List.length_cons, List.length_nil]; omega)
          have hx : (joinF [44, 32] (writeL num ks) ++ [41]) ++ rest = joinF [44, 32] (writeL num ks) ++ 41 :: rest := by simp
          have hns : ∀ y, skipS (joinF [44, 32] (writeL num ks) ++ 41 :: rest) = 41 :: y → False := by
            intro y hy
            cases ks with
            | nil => exact hks rfl
            | cons k1 ks =>
              rw [formedL, Bool.and_eq_true] at hkids
              have ho := hkids.1
              rw [formedB_eq, Bool.and_eq_true] at ho
              obtain ⟨c, hc, hb, hne, _⟩ := setOc_mark ((own_oc ho.1).1 rfl)
              have : ∃ z, joinF [44, 32] (writeL num (k1 :: ks)) ++ 41 :: rest = c :: z := by
                rw [writeL]
                cases hwl : writeL num ks with
                | nil => exact ⟨_, by rw [joinF, hc]; rfl⟩
                | cons a b => exact ⟨_, by rw [joinF, hc]; rfl⟩
              obtain ⟨z, hz⟩ := this
              rw [hz, skip_cons _ hb] at hy
              injection hy with hy _
              exact hne hy
          rw [hx] at c1 c2 ⊢
          rw [body_bool hns]
          refine ⟨fun hd => ?_, fun hd => ?_⟩
          · rw [c1 (by omega)]
            rfl
          · obtain ⟨pp, hp⟩ := c2 (by omega)
            rw [hp]
            exact ⟨pp, rfl⟩
      · -- boost
        have e1 := F2 (by omega)
        have e2 := F3 (by omega)
        have e3 := F4 (by omega)
        have e4 := F7 (by omega) (by omega)
        have e5 := F8 (by omega)
        have e6 := F11 (by omega)
        have e7 := F12 (by omega)
        obtain ⟨rfl, rfl⟩ := e4
        subst e1 e2 e3 e6
        match ks, e7 with
        | [k1], _ =>
        rw [formedL, Bool.and_eq_true] at hkids
        rw [numsInL] at hnk
        have ho := hkids.1
        rw [formedB_eq, Bool.and_eq_true] at ho
        have ho0 := (own_oc ho.1).2 (by decide)
        have hR := ih k1 9 (41 :: rest) hkids.1 hnk.1 (stop_close _)
        have e : joinF [44, 32] (piecesF num (.mk 9 o emp emp emp [] [] b 0 [k1]) ++ writeL num [k1]) ++ [41] ++ rest = num b ++ 44 :: 32 :: (writeF num k1 ++ 41 :: rest) := by
          rw [show piecesF num (.mk 9 o emp emp emp [] [] b 0 [k1]) = [num b] from rfl]
          simp [writeL, joinF, ho0, markF]
        rw [e, bodyS, if_neg (by decide), if_pos rfl, num_read N hnb (stop_comma _).dig.1 (stop_comma _).dig.2]
        simp only [bind, Except.bind, pure, Except.pure]
        rw [if_neg (by omega)]
        simp only [want_comma, query_blank, depthL, Nat.max_zero]
        refine ⟨fun hd => ?_, fun hd => ?_⟩
        · rw [hR.1 (by omega), setOc_zero ho0]
          rfl
        · obtain ⟨pp, hp⟩ := hR.2 (by omega)
          rw [hp]
          exact ⟨pp, rfl⟩
      · -- weigh
        have e1 := F1 (by omega)
        have e2 := F3 (by omega)
        have e3 := F4 (by omega)
        have e4 := F6 rfl
        have e5 := F9 (by omega)
        have e6 := F10 rfl
        have e7 := F12 (by omega)
        obtain ⟨hl1, rfl⟩ := e4
        subst e2 e3 e5
        match ks, e7, l, hl1 with
        | [k1], _, [n], _ =>
        rw [formedL, Bool.and_eq_true] at hkids
        rw [numsInL] at hnk
        have ho := hkids.1
        rw [formedB_eq, Bool.and_eq_true] at ho
        have ho0 := (own_oc ho.1).2 (by decide)
        have hR := ih k1 10 (41 :: rest) hkids.1 hnk.1 (stop_close _)
        have e : joinF [44, 32] (piecesF num (.mk 10 o f emp emp [n] [] 0 p [k1]) ++ writeL num [k1]) ++ [41] ++ rest = opF p ++ 44 :: 32 :: (f.data.toList ++ 44 :: 32 :: (num n ++ 44 :: 32 :: (writeF num k1 ++ 41 :: rest))) := by
          rw [show piecesF num (.mk 10 o f emp emp [n] [] 0 p [k1]) = [opF p, f.data.toList, num n] from rfl]
          simp [writeL, joinF, ho0, markF]
        rw [e, bodyS, if_neg (by decide), if_neg (by decide), if_pos rfl, op_read e6 (stop_comma _)]
        simp only [bind, Except.bind, pure, Except.pure, want_comma, name_blank, name_read e1 (stop_comma _), num_blank, num_read N (hnl n (by simp)) (stop_comma _).dig.1 (stop_comma _).dig.2, query_blank, depthL, Nat.max_zero]
        refine ⟨fun hd => ?_, fun hd => ?_⟩
        · rw [hR.1 (by omega), setOc_zero ho0]
          rfl
        · obtain ⟨pp, hp⟩ := hR.2 (by omega)
          rw [hp]
          exact ⟨pp, rfl⟩
      · -- range
        have e1 := F1 (by omega)
        have e2 := F3 (by omega)
        have e3 := F4 (by omega)
        have e4 := F5 rfl
        have e5 := F9 (by omega)
        have e6 := F11 (by omega)
        have e7 := F13 (by omega) (by omega)
        subst e2 e3 e5 e6 e7
        have hl0 : l ≠ [] := by rintro rfl; simp at e4
        have hh0 : h ≠ [] := by rintro rfl; simp at e4; omega
        have e : joinF [44, 32] (piecesF num (.mk 7 o f emp emp l h 0 0 []) ++ writeL num []) ++ [41] ++ rest = f.data.toList ++ 44 :: 32 :: (numsF num l ++ 44 :: 32 :: (numsF num h ++ 41 :: rest)) := by
          rw [show piecesF num (.mk 7 o f emp emp l h 0 0 []) = [f.data.toList, numsF num l, numsF num h] from rfl]
          simp [writeL, joinF]
        have hlen : ∀ (L : List Int) (x : R), L.length < (32 :: (numsF num L ++ x)).length + 1 := by
          intro L x
          have : L.length ≤ (numsF num L).length + 1 := by
            unfold numsF
            induction L with
            | nil => simp
            | cons a L ihL =>
              cases L with
              | nil => simp
              | cons a2 L =>
                rw [List.map_cons, joinF_cons _ _ (by simp)]
                simp only [List.length_append, List.length_cons, List.length_nil] at *
                omega
          simp only [List.length_cons, List.length_append]; omega
        rw [e, bodyS, if_neg (by decide), if_neg (by decide), if_neg (by decide), if_pos rfl, name_read e1 (stop_comma _)]
        simp only [bind, Except.bind, pure, Except.pure, want_comma, sev_blank]
        rw [sev_read N hl0 hnl (stop_comma _) (hlen l _)]
        simp only [want_comma, sev_blank]
        rw [sev_read N hh0 hnh (stop_close _) (hlen h _)]
        simp only [depthL]
        rw [if_neg (by omega)]
        exact ⟨fun _ => rfl, fun hd => by omega⟩
      · -- terms
        have e1 := F1 (by omega)
        have e4 := F7 (by omega) (by omega)
        have e5 := F9 (by omega)
        have e6 := F11 (by omega)
        have e7 := F13 (by omega) (by omega)
        obtain ⟨rfl, rfl⟩ := e4
        subst e5 e6 e7
        have e : joinF [44, 32] (piecesF num (.mk 6 o f t up' [] [] 0 0 []) ++ writeL num []) ++ [41] ++ rest = f.data.toList ++ 44 :: 32 :: (quoteF t ++ 44 :: 32 :: (quoteF up' ++ 41 :: rest)) := by
          rw [show piecesF num (.mk 6 o f t up' [] [] 0 0 []) = [f.data.toList, quoteF t, quoteF up'] from rfl]
          simp [writeL, joinF]
        rw [e, bodyS, if_neg (by decide), if_neg (by decide), if_neg (by decide), if_neg (by decide), name_read e1 (stop_comma _)]
        simp only [bind, Except.bind, pure, Except.pure, want_comma, text_blank, text_read, if_true, want_close, depthL]
        exact ⟨fun _ => rfl, fun hd => by omega⟩
      · -- term, phrase, prefix
        have e1 := F1 (by omega)
        have e3 := F4 (by omega)
        have e4 := F7 (by omega) (by omega)
        have e5 := F9 (by omega)
        have e6 := F11 (by omega)
        have e7 := F13 (by omega) (by omega)
        obtain ⟨rfl, rfl⟩ := e4
        subst e3 e5 e6 e7
        have e : joinF [44, 32] (piecesF num (.mk k o f t emp [] [] 0 0 []) ++ writeL num []) ++ [41] ++ rest = f.data.toList ++ 44 :: 32 :: (quoteF t ++ 41 :: rest) := by
          rw [show piecesF num (.mk k o f t emp [] [] 0 0 []) = [f.data.toList, quoteF t] from by unfold piecesF; rw [if_pos (by simp only [kd]; omega)]; rfl]
          simp [writeL, joinF]
        rw [e, bodyS, if_neg (by omega), if_neg (by omega), if_neg (by omega), if_neg (by omega), name_read e1 (stop_comma _)]
        simp only [bind, Except.bind, pure, Except.pure, want_comma, text_blank, text_read, depthL]
        rw [if_neg (by omega), want_close]
        exact ⟨fun _ => rfl, fun hd => by omega⟩
/-- THE STAGE'S LAW. -/
theorem parse_text (N : NumLaw num par I) (q : QT) (hf : formedB 0 q = true) (hn : numsIn I q) (hl : (writeF num q).length ≤ 4096) :
    (depthF q ≤ 6 → parseS num par (writeF num q) = .ok q) ∧ (6 < depthF q → ∃ p, parseS num par (writeF num q) = .error (p, 182)) := by
  have hR := read_write N 6 q 0 [] hf hn stop_nil
  unfold Reads at hR
  rw [List.append_nil] at hR
  have ho := hf
  rw [formedB_eq, Bool.and_eq_true] at ho
  have ho0 := (own_oc ho.1).2 (by decide)
  unfold parseS
  rw [if_neg (by omega)]
  refine ⟨fun hd => ?_, fun hd => ?_⟩
  · rw [hR.1 hd, setOc_zero ho0]
    rfl
  · obtain ⟨p, hp⟩ := hR.2 hd
    rw [hp]
    exact ⟨p, rfl⟩
end
end QryP
