/- Reading in plain Lean: what is left is no longer than what there was, a fault tells a place of the text and is one, and rounds enough are rounds enough. -/
import Derived.Test.YtinmiekbhoemjaaDoorPack8
namespace QryP
open SchP

/-- What reading on a text of at most n bytes may give. -/
def Fine {α : Type} (n : Nat) : E (α × R) → Prop
  | .ok (_, r) => r.length ≤ n
  | .error (p, c) => p ≤ n ∧ (c = 180 ∨ c = 182)
theorem Fine.more {α : Type} {n m : Nat} {x : E (α × R)} (h : Fine n x) (hn : n ≤ m) : Fine m x := by
  match x, h with
  | .ok (_, r), h => exact Nat.le_trans h hn
  | .error (p, c), h => exact ⟨Nat.le_trans h.1 hn, h.2⟩
theorem drop_le (p : UInt8 → Bool) : ∀ r : R, (r.dropWhile p).length ≤ r.length
  | [] => Nat.le_refl _
  | c :: r => by rw [List.dropWhile_cons]; split <;> simp [Nat.le_succ_of_le, drop_le p r]
theorem skip_le (r : R) : (skipS r).length ≤ r.length := drop_le _ r
theorem take_drop (p : UInt8 → Bool) : ∀ r : R, (r.takeWhile p).length + (r.dropWhile p).length = r.length
  | [] => rfl
  | c :: r => by rw [List.takeWhile_cons, List.dropWhile_cons]; split <;> simp [← take_drop p r]; omega
theorem want_ok {c : UInt8} {r t : R} (h : wantS c r = .ok t) : t.length < r.length := by
  unfold wantS at h
  have := skip_le r
  revert h
  cases hs : skipS r with
  | nil => intro h; cases h
  | cons x u =>
    dsimp only
    split
    · intro h; cases h; rw [hs] at this; simp at this; omega
    · intro h; cases h
theorem want_bad {c : UInt8} {r : R} {p : Nat} {n : Int} (h : wantS c r = .error (p, n)) : p ≤ r.length ∧ n = 180 := by
  unfold wantS at h
  have := skip_le r
  revert h
  cases hs : skipS r with
  | nil => intro h; cases h; exact ⟨Nat.zero_le _, rfl⟩
  | cons x u =>
    dsimp only
    split
    · intro h; cases h
    · intro h; cases h; rw [hs] at this; exact ⟨by simpa using this, rfl⟩
theorem name_fine (r : R) : Fine r.length (nameS r) := by
  unfold nameS
  have h1 := skip_le r
  have h2 := drop_le letB (skipS r)
  split
  · exact Nat.le_trans h2 h1
  · exact ⟨h1, .inl rfl⟩
section
variable {num : Int → R} {par : R → Option Int}
theorem rest_le (f : R) : (restS f).length ≤ f.length := by unfold restS; split <;> simp
theorem num_fine (r : R) : Fine r.length (numS num par r) := by
  unfold numS
  have h1 := skip_le r
  have h2 := rest_le (skipS r)
  have h3 := drop_le digB (restS (skipS r))
  split
  · exact ⟨h1, .inl rfl⟩
  · split
    · exact Nat.le_trans h3 (Nat.le_trans h2 h1)
    · exact ⟨h1, .inl rfl⟩
/-- Rounds enough. -/
theorem sev_fuel : ∀ (m m' : Nat) (r : R), r.length < m → r.length < m' → sevS num par m r = sevS num par m' r
  | 0, _, r, h, _ => by omega
  | _, 0, r, _, h => by omega
  | m + 1, m' + 1, r, h, h' => by
    unfold sevS
    have hn := num_fine (num := num) (par := par) r
    match hx : numS num par r, hn with
    | .error e, _ => rfl
    | .ok (n, r1), hn =>
      dsimp only
      have hs := skip_le r1
      cases hk : skipS r1 with
      | nil => rfl
      | cons c t =>
        dsimp only
        split
        · rfl
        · split
          · rfl
          · rename_i hne
            rw [hk] at hs
            replace hn : r1.length ≤ r.length := hn
            have hlt : (c :: t).length < r1.length := by omega
            rw [sev_fuel m m' (c :: t) (by omega) (by omega)]
theorem sev_fine : ∀ (m : Nat) (r : R), r.length < m → Fine r.length (sevS num par m r)
  | 0, r, h => by omega
  | m + 1, r, h => by
    unfold sevS
    have hn := num_fine (num := num) (par := par) r
    match hx : numS num par r, hn with
    | .error (p, c), hn => exact hn
    | .ok (n, r1), hn =>
      replace hn : r1.length ≤ r.length := hn
      dsimp only
      have hs := skip_le r1
      cases hk : skipS r1 with
      | nil => exact Nat.zero_le _
      | cons c t =>
        rw [hk] at hs
        dsimp only
        split
        · exact Nat.le_trans hs hn
        · split
          · exact ⟨hn, .inl rfl⟩
          · have ih := sev_fine m (c :: t) (by omega)
            match hy : sevS num par m (c :: t), ih with
            | .error (p, k), ih => exact ⟨by have := ih.1; omega, ih.2⟩
            | .ok (l, r2), ih => exact Nat.le_trans ih (Nat.le_trans hs hn)
end
theorem push_fine {n : Nat} {c : UInt8} {x : E (R × R)} (h : Fine n x) : Fine n (pushS c x) := by
  match x, h with
  | .ok (b, r), h => exact h
  | .error (p, k), h => exact h
theorem str_fine (at_ : Nat) : ∀ (k : Nat) (r : R), r.length ≤ k → Fine (max at_ r.length) (strS at_ r)
  | 0, r, h => by
    obtain rfl := List.eq_nil_of_length_eq_zero (Nat.le_zero.1 h)
    exact ⟨Nat.le_max_left _ _, .inl rfl⟩
  | k + 1, [], h => ⟨Nat.le_max_left _ _, .inl rfl⟩
  | k + 1, c :: t, h => by
    have hm : at_ ≤ max at_ (c :: t).length := Nat.le_max_left _ _
    have ih : ∀ t' : R, t'.length ≤ t.length → Fine (max at_ (c :: t).length) (strS at_ t') := fun t' ht => (str_fine at_ k t' (by simp at h; omega)).more (by simp; omega)
    rw [strS.eq_def]
    dsimp only
    split
    · show t.length ≤ max at_ (c :: t).length; simp; omega
    · split
      · exact ⟨hm, .inl rfl⟩
      · split
        · exact push_fine (ih t (Nat.le_refl _))
        · cases t with
          | nil => exact ⟨hm, .inl rfl⟩
          | cons d t' =>
            dsimp only
            split
            · exact push_fine (ih t' (by simp))
            · match t' with
              | [] => exact ⟨hm, .inl rfl⟩
              | [a] => exact ⟨hm, .inl rfl⟩
              | a :: b :: t'' =>
                dsimp only
                split
                · split
                  · exact push_fine (ih t'' (by simp; omega))
                  · exact ⟨hm, .inl rfl⟩
                · exact ⟨hm, .inl rfl⟩
theorem text_fine (r : R) : Fine r.length (textS r) := by
  unfold textS
  have hs := skip_le r
  cases hw : wantS 34 r with
  | error e =>
    obtain ⟨p, n⟩ := e
    have := want_bad hw
    exact ⟨this.1, .inl this.2⟩
  | ok t =>
    have hl := want_ok hw
    dsimp only
    have h := str_fine (skipS r).length t.length t (Nat.le_refl _)
    match hx : strS (skipS r).length t, h with
    | .error (p, n), h => exact ⟨by have := h.1; omega, h.2⟩
    | .ok (b, r'), h =>
      replace h : r'.length ≤ _ := h
      show r'.length ≤ r.length
      omega
theorem find_in {f : Int → R} {w : R} : ∀ {n : Nat} {k : Int}, findK f w n = some k → 1 ≤ k ∧ k ≤ n ∧ f k = w
  | 0, k, h => by cases h
  | n + 1, k, h => by
    rw [findK] at h
    cases hx : findK f w n with
    | some i =>
      rw [hx] at h
      cases h
      have := find_in hx
      exact ⟨this.1, by omega, this.2.2⟩
    | none =>
      rw [hx] at h
      dsimp only at h
      split at h
      · cases h; exact ⟨by omega, by omega, by assumption⟩
      · cases h
theorem kind_fine (d : Nat) (r : R) : Fine r.length (kindS d r) ∧ ∀ k r1, kindS d r = .ok (k, r1) → 1 ≤ k ∧ k ≤ 10 ∧ r1.length < r.length ∧ d ≠ 0 := by
  unfold kindS
  have h1 := skip_le r
  have h2 := take_drop letB (skipS r)
  cases hf : findK wordF ((skipS r).takeWhile letB) 10 with
  | none => exact ⟨⟨h1, .inl rfl⟩, fun k r1 h => by cases h⟩
  | some k =>
    have hk := find_in hf
    dsimp only
    split
    · exact ⟨⟨h1, .inr rfl⟩, fun k r1 h => by cases h⟩
    · rename_i hd
      refine ⟨?_, fun k' r1 h => ?_⟩
      · show ((skipS r).dropWhile letB).length ≤ r.length; omega
      · cases h
        have hn : (skipS r).takeWhile letB ≠ [] := by
          rw [← hk.2.2]
          have : k = 1 ∨ k = 2 ∨ k = 3 ∨ k = 4 ∨ k = 5 ∨ k = 6 ∨ k = 7 ∨ k = 8 ∨ k = 9 ∨ k = 10 := by omega
          rcases this with rfl | rfl | rfl | rfl | rfl | rfl | rfl | rfl | rfl | rfl <;> decide
        have := List.length_pos_iff.2 hn
        exact ⟨hk.1, hk.2.1, by omega, hd⟩
theorem op_fine (r : R) : Fine r.length (opS r) := by
  unfold opS
  have h1 := skip_le r
  have h2 := drop_le letB (skipS r)
  split
  · exact ⟨h1, .inl rfl⟩
  · exact Nat.le_trans h2 h1
section
variable {qs : R → E (QT × R)}
/-- Rounds enough. -/
theorem clause_fuel (hq : ∀ t, Fine t.length (qs t)) : ∀ (m m' : Nat) (r : R), r.length < m → r.length < m' → clauseS qs m r = clauseS qs m' r
  | 0, _, r, h, _ => by omega
  | _, 0, r, _, h => by omega
  | m + 1, m' + 1, r, h, h' => by
    unfold clauseS
    have hs := skip_le r
    cases hk : skipS r with
    | nil => rfl
    | cons c t =>
      rw [hk] at hs
      dsimp only
      split
      · rfl
      · have hqt := hq t
        match hx : qs t, hqt with
        | .error e, _ => rfl
        | .ok (k, r1), hqt =>
          replace hqt : r1.length ≤ t.length := hqt
          dsimp only
          have hs1 := skip_le r1
          split
          · rename_i r3 hr3
            rw [hr3] at hs1
            simp only [List.length_cons] at hs hs1
            rw [clause_fuel hq m m' r3 (by omega) (by omega)]
          · rfl
theorem clause_fine (hq : ∀ t, Fine t.length (qs t)) : ∀ (m : Nat) (r : R), r.length < m → Fine r.length (clauseS qs m r)
  | 0, r, h => by omega
  | m + 1, r, h => by
    unfold clauseS
    have hs := skip_le r
    cases hk : skipS r with
    | nil => exact ⟨Nat.zero_le _, .inl rfl⟩
    | cons c t =>
      rw [hk] at hs
      simp only [List.length_cons] at hs
      dsimp only
      split
      · exact ⟨hs, .inl rfl⟩
      · have hqt := hq t
        match hx : qs t, hqt with
        | .error (p, n), hqt => exact ⟨by have := hqt.1; omega, hqt.2⟩
        | .ok (k, r1), hqt =>
          replace hqt : r1.length ≤ t.length := hqt
          dsimp only
          have hs1 := skip_le r1
          split
          · rename_i r3 hr3
            rw [hr3] at hs1
            simp only [List.length_cons] at hs1
            have ih := clause_fine hq m r3 (by omega)
            match hy : clauseS qs m r3, ih with
            | .error (p, n), ih => exact ⟨by have := ih.1; omega, ih.2⟩
            | .ok (ks, r4), ih =>
              replace ih : r4.length ≤ r3.length := ih
              show r4.length ≤ r.length
              omega
          · show (skipS r1).length ≤ r.length
            omega
end
/-- A piece of reading behind another. -/
theorem fine_bind {α β : Type} {n : Nat} {x : E (α × R)} {f : α × R → E (β × R)} (hx : Fine n x) (hf : ∀ a r, x = .ok (a, r) → r.length ≤ n → Fine n (f (a, r))) : Fine n (x >>= f) := by
  match x, hx with
  | .error (p, c), hx => exact hx
  | .ok (a, r), hx => exact hf a r rfl hx
theorem fine_want {β : Type} {n : Nat} {c : UInt8} {r : R} {f : R → E (β × R)} (hn : r.length ≤ n) (hf : ∀ t, t.length ≤ n → Fine n (f t)) : Fine n (wantS c r >>= f) := by
  cases hw : wantS c r with
  | error e =>
    obtain ⟨p, k⟩ := e
    have := want_bad hw
    exact ⟨by omega, .inl this.2⟩
  | ok t => exact hf t (by have := want_ok hw; omega)
section
variable {num : Int → R} {par : R → Option Int}
theorem body_fine {qs : R → E (QT × R)} (hq : ∀ t, Fine t.length (qs t)) (k : Int) (r : R) : Fine r.length (bodyS num par qs k r) := by
  have hs := skip_le r
  unfold bodyS
  split
  · split
    · rename_i t ht
      rw [ht] at hs
      simp only [List.length_cons] at hs
      show t.length ≤ r.length
      omega
    · refine fine_bind (clause_fine hq _ r (Nat.lt_succ_self _)) fun ks r1 _ h1 => ?_
      exact fine_want h1 fun t ht => ht
  · split
    · refine fine_bind (num_fine r) fun b r1 _ h1 => ?_
      dsimp only
      split
      · exact ⟨hs, .inl rfl⟩
      · refine fine_want h1 fun t ht => ?_
        refine fine_bind ((hq t).more ht) fun q r3 _ h3 => ?_
        exact fine_want h3 fun t ht => ht
    · split
      · refine fine_bind (op_fine r) fun o r1 _ h1 => ?_
        refine fine_want h1 fun r2 h2 => ?_
        refine fine_bind ((name_fine r2).more h2) fun f r3 _ h3 => ?_
        refine fine_want h3 fun r4 h4 => ?_
        refine fine_bind ((num_fine r4).more h4) fun n r5 _ h5 => ?_
        refine fine_want h5 fun r6 h6 => ?_
        refine fine_bind ((hq r6).more h6) fun q r7 _ h7 => ?_
        exact fine_want h7 fun t ht => ht
      · split
        · refine fine_bind (name_fine r) fun f r1 _ h1 => ?_
          refine fine_want h1 fun r2 h2 => ?_
          refine fine_bind ((sev_fine _ r2 (Nat.lt_succ_self _)).more h2) fun lo r3 _ h3 => ?_
          refine fine_want h3 fun r4 h4 => ?_
          refine fine_bind ((sev_fine _ r4 (Nat.lt_succ_self _)).more h4) fun hi r5 _ h5 => ?_
          dsimp only
          split
          · exact ⟨Nat.le_trans (skip_le r5) h5, .inl rfl⟩
          · exact fine_want h5 fun t ht => ht
        · refine fine_bind (name_fine r) fun f r1 _ h1 => ?_
          refine fine_want h1 fun r2 h2 => ?_
          refine fine_bind ((text_fine r2).more h2) fun t r3 _ h3 => ?_
          dsimp only
          split
          · refine fine_want h3 fun r4 h4 => ?_
            refine fine_bind ((text_fine r4).more h4) fun u r5 _ h5 => ?_
            exact fine_want h5 fun t ht => ht
          · exact fine_want h3 fun t ht => ht
theorem query_fine : ∀ (d : Nat) (r : R), Fine r.length (queryS num par d r)
  | 0, r => by
    obtain ⟨h1, h2⟩ := kind_fine 0 r
    rw [queryS]
    match hx : kindS 0 r, h1 with
    | .error (p, c), h1 => exact h1
    | .ok (k, r1), _ => exact absurd rfl (h2 k r1 hx).2.2.2
  | d + 1, r => by
    obtain ⟨h1, h2⟩ := kind_fine (d + 1) r
    rw [queryS]
    match hx : kindS (d + 1) r, h1 with
    | .error (p, c), h1 => exact h1
    | .ok (k, r1), h1 =>
      replace h1 : r1.length ≤ r.length := h1
      dsimp only
      split
      · exact h1
      · cases hw : wantS 40 r1 with
        | error e =>
          obtain ⟨p, n⟩ := e
          have := want_bad hw
          exact ⟨by omega, .inl this.2⟩
        | ok r2 =>
          have := want_ok hw
          exact (body_fine (fun t => query_fine d t) k r2).more (by omega)
/-- A fault tells a place of the text, and is one. -/
theorem parse_bad {r : R} {p : Nat} {c : Int} (h : parseS num par r = .error (p, c)) : p ≤ r.length ∧ (c = 3 ∨ c = 180 ∨ c = 182) := by
  unfold parseS at h
  split at h
  · cases h; exact ⟨Nat.le_refl _, .inl rfl⟩
  · have hq := query_fine (num := num) (par := par) 6 r
    match hx : queryS num par 6 r, hq with
    | .error (p', c'), hq =>
      rw [hx] at h
      cases h
      exact ⟨hq.1, .inr hq.2⟩
    | .ok (q, r1), hq =>
      rw [hx] at h
      replace hq : r1.length ≤ r.length := hq
      dsimp only at h
      have hs := skip_le r1
      cases hk : skipS r1 with
      | nil => rw [hk] at h; cases h
      | cons x t =>
        rw [hk] at h hs
        cases h
        exact ⟨by simp at hs; omega, .inr (.inl rfl)⟩
end
end QryP
