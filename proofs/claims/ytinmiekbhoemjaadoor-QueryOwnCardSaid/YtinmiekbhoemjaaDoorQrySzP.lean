/- How great what is read may be, in plain Lean. -/
import Derived.Test.YtinmiekbhoemjaaDoorQryReadQ
namespace QryP
open SchP

/-- All of a query's parts have at most n places. -/
inductive Sz (n : Nat) : QT → Prop where
  | mk {k o : Int} {f t u : ByteArray} {l h : List Int} {b p : Int} {ks : List QT} (hf : f.size ≤ n) (ht : t.size ≤ n) (hu : u.size ≤ n) (hl : l.length ≤ n) (hh : h.length ≤ n) (hn : ks.length ≤ n) (hk : ∀ x ∈ ks, Sz n x) : Sz n (.mk k o f t u l h b p ks)
theorem sz_setOc {n : Nat} {o : Int} {q : QT} (h : Sz n q) : Sz n (setOc o q) := by
  cases h with
  | mk hf ht hu hl hh hn hk => exact .mk hf ht hu hl hh hn hk
theorem bytes_size (l : R) : (bytes l).size = l.length := by unfold bytes; rfl
theorem name_sz {r : R} {f : ByteArray} {r1 : R} (h : nameS r = .ok (f, r1)) : f.size ≤ r.length := by
  unfold nameS at h
  have h1 := skip_le r
  have h2 := take_drop letB (skipS r)
  split at h
  · cases h; rw [bytes_size]; omega
  · cases h
theorem str_sz (at_ : Nat) : ∀ (k : Nat) (r : R), r.length ≤ k → ∀ b r1, strS at_ r = .ok (b, r1) → b.length ≤ r.length
  | _, [], _, b, r1, e => by rw [strS] at e; cases e
  | 0, c :: t, h, _, _, _ => by simp at h
  | k + 1, c :: t, h, b, r1, e => by
    have push : ∀ (x : UInt8) (t' : R) (b : R), t'.length ≤ t.length → pushS x (strS at_ t') = .ok (b, r1) → b.length ≤ (c :: t).length := by
      intro x t' b ht e
      match hx : strS at_ t', e with
      | .ok (b', r'), e =>
        have hb := str_sz at_ k t' (by simp at h; omega) b' r' hx
        rw [pushS] at e
        cases e
        simp only [List.length_cons]; omega
      | .error x, e => rw [pushS] at e; cases e
    rw [strS.eq_def] at e
    dsimp only at e
    split at e
    · cases e; simp
    · split at e
      · cases e
      · split at e
        · exact push _ t b (Nat.le_refl _) e
        · cases t with
          | nil => cases e
          | cons d t' =>
            dsimp only at e
            split at e
            · exact push _ t' b (by simp) e
            · match t', e with
              | [], e => cases e
              | [a], e => cases e
              | a :: b' :: t'', e =>
                dsimp only at e
                split at e
                · split at e
                  · exact push _ t'' b (by simp; omega) e
                  · cases e
                · cases e
theorem text_sz {r : R} {f : ByteArray} {r1 : R} (h : textS r = .ok (f, r1)) : f.size ≤ r.length := by
  unfold textS at h
  cases hw : wantS 34 r with
  | error e => rw [hw] at h; cases h
  | ok t =>
    have hl := want_ok hw
    rw [hw] at h
    dsimp only at h
    cases hs : strS (skipS r).length t with
    | error e => rw [hs] at h; cases h
    | ok x =>
      obtain ⟨b, r'⟩ := x
      rw [hs] at h
      cases h
      have := str_sz (skipS r).length t.length t (Nat.le_refl _) b _ hs
      rw [bytes_size]; omega
section
variable {num : Int → R} {par : R → Option Int}
theorem sev_sz : ∀ {m : Nat} {r : R} {l : List Int} {r1 : R}, sevS num par m r = .ok (l, r1) → l.length ≤ m
  | 0, r, l, r1, h => by cases h
  | m + 1, r, l, r1, h => by
    unfold sevS at h
    cases hx : numS num par r with
    | error e => rw [hx] at h; cases h
    | ok x =>
      obtain ⟨n, r2⟩ := x
      rw [hx] at h
      dsimp only at h
      cases hk : skipS r2 with
      | nil => rw [hk] at h; cases h; simp
      | cons c t =>
        rw [hk] at h
        dsimp only at h
        split at h
        · cases h; simp
        · split at h
          · cases h
          · cases hy : sevS num par m (c :: t) with
            | error e => rw [hy] at h; cases h
            | ok y =>
              obtain ⟨l', r3⟩ := y
              rw [hy] at h
              cases h
              have := sev_sz hy
              simp only [List.length_cons]; omega
theorem clause_sz {qs : R → E (QT × R)} {n : Nat} (hf : ∀ t, Fine t.length (qs t)) (hq : ∀ t q r, t.length ≤ n → qs t = .ok (q, r) → Sz (n + 1) q) : ∀ {m : Nat} {r : R} {ks : List QT} {r1 : R}, r.length ≤ n → clauseS qs m r = .ok (ks, r1) → ks.length ≤ m ∧ ∀ x ∈ ks, Sz (n + 1) x
  | 0, r, ks, r1, _, h => by cases h
  | m + 1, r, ks, r1, hr, h => by
    unfold clauseS at h
    have hs := skip_le r
    cases hk : skipS r with
    | nil => rw [hk] at h; cases h
    | cons c t =>
      rw [hk] at h hs
      dsimp only at h
      simp only [List.length_cons] at hs
      split at h
      · cases h
      · have hft := hf t
        cases hx : qs t with
        | error e => rw [hx] at h; cases h
        | ok x =>
          obtain ⟨k, r2⟩ := x
          have G := sz_setOc (o := markI c) (hq t k r2 (by omega) hx)
          rw [hx] at h hft
          replace hft : r2.length ≤ t.length := hft
          have hs2 := skip_le r2
          dsimp only at h
          split at h
          · rename_i r3 he
            rw [he] at hs2
            simp only [List.length_cons] at hs2
            cases hy : clauseS qs m r3 with
            | error e => rw [hy] at h; cases h
            | ok y =>
              obtain ⟨ks', r4⟩ := y
              rw [hy] at h
              cases h
              obtain ⟨i1, i2⟩ := clause_sz hf hq (by omega) hy
              refine ⟨by simp only [List.length_cons]; omega, ?_⟩
              intro x hx
              rcases List.mem_cons.1 hx with rfl | hx
              · exact G
              · exact i2 x hx
          · cases h
            exact ⟨by simp, by simpa using G⟩
theorem num_ok_le {r : R} {n : Int} {r1 : R} (h : numS num par r = .ok (n, r1)) : r1.length ≤ r.length := by have := num_fine (num := num) (par := par) r; rw [h] at this; exact this
theorem name_ok_le {r : R} {n : ByteArray} {r1 : R} (h : nameS r = .ok (n, r1)) : r1.length ≤ r.length := by have := name_fine r; rw [h] at this; exact this
theorem op_ok_le {r : R} {n : Int} {r1 : R} (h : opS r = .ok (n, r1)) : r1.length ≤ r.length := by have := op_fine r; rw [h] at this; exact this
theorem text_ok_le {r : R} {n : ByteArray} {r1 : R} (h : textS r = .ok (n, r1)) : r1.length ≤ r.length := by have := text_fine r; rw [h] at this; exact this
theorem sev_ok_le {m : Nat} {r : R} {n : List Int} {r1 : R} (hm : r.length < m) (h : sevS num par m r = .ok (n, r1)) : r1.length ≤ r.length := by have := sev_fine (num := num) (par := par) m r hm; rw [h] at this; exact this
theorem emp_size : emp.size = 0 := rfl
theorem body_sz {qs : R → E (QT × R)} {n : Nat} (hf : ∀ t, Fine t.length (qs t)) (hq : ∀ t q r, t.length ≤ n → qs t = .ok (q, r) → Sz (n + 1) q) {k : Int} {r : R} {q : QT} {r1 : R} (hr : r.length ≤ n) (h : bodyS num par qs k r = .ok (q, r1)) : Sz (n + 1) q := by
  unfold bodyS at h
  split at h
  · split at h
    · cases h
      exact .mk (by simp [emp_size]) (by simp [emp_size]) (by simp [emp_size]) (by simp) (by simp) (by simp) (by simp)
    · obtain ⟨⟨ks, r2⟩, hc, h⟩ := bind_ok h
      obtain ⟨r3, _, h⟩ := bind_ok h
      cases h
      obtain ⟨c1, c2⟩ := clause_sz hf hq hr hc
      exact .mk (by simp [emp_size]) (by simp [emp_size]) (by simp [emp_size]) (by simp) (by simp) (by first | omega | (dsimp only; omega)) c2
  · split at h
    · obtain ⟨⟨b, r2⟩, hb, h⟩ := bind_ok h
      dsimp only at h
      have l1 := num_ok_le hb
      split at h
      · cases h
      · obtain ⟨r3, hw, h⟩ := bind_ok h
        have l2 := want_ok hw
        obtain ⟨⟨q1, r4⟩, hq1, h⟩ := bind_ok h
        obtain ⟨r5, _, h⟩ := bind_ok h
        cases h
        exact .mk (by simp [emp_size]) (by simp [emp_size]) (by simp [emp_size]) (by simp) (by simp) (by simp) (by simpa using hq _ _ _ (by first | omega | (dsimp only; omega)) hq1)
    · split at h
      · obtain ⟨⟨p, r2⟩, ho, h⟩ := bind_ok h
        obtain ⟨r3, w1, h⟩ := bind_ok h
        obtain ⟨⟨f, r4⟩, hnf, h⟩ := bind_ok h
        obtain ⟨r5, w2, h⟩ := bind_ok h
        obtain ⟨⟨m, r6⟩, hn, h⟩ := bind_ok h
        obtain ⟨r7, w3, h⟩ := bind_ok h
        obtain ⟨⟨q1, r8⟩, hq1, h⟩ := bind_ok h
        obtain ⟨r9, _, h⟩ := bind_ok h
        cases h
        have a1 := op_ok_le ho
        have a2 := want_ok w1
        have a3 := name_ok_le hnf
        have a4 := name_sz hnf
        have a5 := want_ok w2
        have a6 := num_ok_le hn
        have a7 := want_ok w3
        exact .mk (by first | omega | (dsimp only; omega)) (by simp [emp_size]) (by simp [emp_size]) (by simp) (by simp) (by simp) (by simpa using hq _ _ _ (by first | omega | (dsimp only; omega)) hq1)
      · split at h
        · obtain ⟨⟨f, r2⟩, hnf, h⟩ := bind_ok h
          obtain ⟨r3, w1, h⟩ := bind_ok h
          obtain ⟨⟨lo, r4⟩, hl, h⟩ := bind_ok h
          obtain ⟨r5, w2, h⟩ := bind_ok h
          obtain ⟨⟨hi, r6⟩, hh, h⟩ := bind_ok h
          dsimp only at h
          split at h
          · cases h
          · obtain ⟨r7, _, h⟩ := bind_ok h
            cases h
            have a3 := name_ok_le hnf
            have a4 := name_sz hnf
            have a5 := want_ok w1
            have a6 := sev_sz hl
            have a7 := sev_ok_le (Nat.lt_succ_self _) hl
            have a8 := want_ok w2
            have a9 := sev_sz hh
            exact .mk (by first | omega | (dsimp only; omega)) (by simp [emp_size]) (by simp [emp_size]) (by first | omega | (dsimp only; omega)) (by first | omega | (dsimp only; omega)) (by simp) (by simp)
        · obtain ⟨⟨f, r2⟩, hnf, h⟩ := bind_ok h
          obtain ⟨r3, w1, h⟩ := bind_ok h
          obtain ⟨⟨t, r4⟩, ht, h⟩ := bind_ok h
          have a3 := name_ok_le hnf
          have a4 := name_sz hnf
          have a5 := want_ok w1
          have a6 := text_sz ht
          have a7 := text_ok_le ht
          dsimp only at h
          split at h
          · obtain ⟨r5, w2, h⟩ := bind_ok h
            obtain ⟨⟨u', r6⟩, hu', h⟩ := bind_ok h
            obtain ⟨r7, _, h⟩ := bind_ok h
            cases h
            have a8 := want_ok w2
            have a9 := text_sz hu'
            exact .mk (by first | omega | (dsimp only; omega)) (by first | omega | (dsimp only; omega)) (by first | omega | (dsimp only; omega)) (by simp) (by simp) (by simp) (by simp)
          · obtain ⟨r5, w2, h⟩ := bind_ok h
            cases h
            exact .mk (by first | omega | (dsimp only; omega)) (by first | omega | (dsimp only; omega)) (by simp [emp_size]) (by simp) (by simp) (by simp) (by simp)
theorem query_sz {n : Nat} : ∀ {d : Nat} {r : R} {q : QT} {r1 : R}, r.length ≤ n → queryS num par d r = .ok (q, r1) → Sz (n + 1) q
  | 0, r, q, r1, _, h => by rw [queryS] at h; split at h <;> cases h
  | d + 1, r, q, r1, hr, h => by
    rw [queryS] at h
    have hkf := (kind_fine (d + 1) r).2
    cases hx : kindS (d + 1) r with
    | error e => rw [hx] at h; cases h
    | ok x =>
      obtain ⟨k, r2⟩ := x
      obtain ⟨k1, k2, k3, _⟩ := hkf k r2 hx
      rw [hx] at h
      dsimp only at h
      split at h
      · cases h
        exact .mk (by simp [emp_size]) (by simp [emp_size]) (by simp [emp_size]) (by simp) (by simp) (by simp) (by simp)
      · cases hw : wantS 40 r2 with
        | error e => rw [hw] at h; cases h
        | ok r3 =>
          rw [hw] at h
          have := want_ok hw
          exact body_sz (fun t => query_fine d t) (fun t q r ht hq => query_sz ht hq) (by omega) h
theorem parse_sz {r : R} {q : QT} (h : parseS num par r = .ok q) : Sz 4097 q := by
  unfold parseS at h
  split at h
  · cases h
  · cases hx : queryS num par 6 r with
    | error e => rw [hx] at h; cases h
    | ok x =>
      obtain ⟨q', r1⟩ := x
      rw [hx] at h
      dsimp only at h
      split at h
      · cases h; exact query_sz (by omega) hx
      · cases h
end
end QryP
