/- What is read is formed, in plain Lean. -/
import Derived.Test.YtinmiekbhoemjaaDoorQryLenP
import Derived.Test.YtinmiekbhoemjaaDoorQryBackQ
namespace QryP
open SchP

section
variable {num : Int → R} {par : R → Option Int} {I : Int → Prop}
/-- A query that was read, whatever stands ahead of it. -/
structure Got (I : Int → Prop) (d : Nat) (q : QT) : Prop where
  zero : oc q = 0
  form : ∀ (o u : Int), ((u = 8 → 1 ≤ o ∧ o ≤ 4) ∧ (u ≠ 8 → o = 0)) → formedB u (setOc o q) = true
  deep : depthF q ≤ d
  nums : numsIn I q
theorem depth_setOc (o : Int) (q : QT) : depthF (setOc o q) = depthF q := by cases q; rfl
theorem nums_setOc {o : Int} {q : QT} (h : numsIn I q) : numsIn I (setOc o q) := by cases q; rw [setOc]; rw [numsIn] at *; exact h
theorem num_in (hI : ∀ r n, par r = some n → I n) {r : R} {n : Int} {r1 : R} (h : numS num par r = .ok (n, r1)) : I n := by
  unfold numS at h
  split at h
  · cases h
  · rename_i n' hp
    split at h
    · cases h; exact hI _ _ hp
    · cases h
theorem sev_in (hI : ∀ r n, par r = some n → I n) : ∀ {m : Nat} {r : R} {l : List Int} {r1 : R}, sevS num par m r = .ok (l, r1) → l ≠ [] ∧ ∀ z ∈ l, I z
  | 0, r, l, r1, h => by cases h
  | m + 1, r, l, r1, h => by
    unfold sevS at h
    cases hx : numS num par r with
    | error e => rw [hx] at h; cases h
    | ok x =>
      obtain ⟨n, r2⟩ := x
      rw [hx] at h
      dsimp only at h
      have hn := num_in hI hx
      cases hk : skipS r2 with
      | nil => rw [hk] at h; cases h; exact ⟨by simp, by simpa using hn⟩
      | cons c t =>
        rw [hk] at h
        dsimp only at h
        split at h
        · cases h; exact ⟨by simp, by simpa using hn⟩
        · split at h
          · cases h
          · cases hy : sevS num par m (c :: t) with
            | error e => rw [hy] at h; cases h
            | ok y =>
              obtain ⟨l', r3⟩ := y
              rw [hy] at h
              cases h
              have := sev_in hI hy
              exact ⟨by simp, by
                intro z hz
                rcases List.mem_cons.1 hz with rfl | hz
                · exact hn
                · exact this.2 z hz⟩
theorem name_in {r : R} {f : ByteArray} {r1 : R} (h : nameS r = .ok (f, r1)) : nameB f = true := by
  unfold nameS at h
  split at h
  · cases h; assumption
  · cases h
theorem op_in {r : R} {k : Int} {r1 : R} (h : opS r = .ok (k, r1)) : 1 ≤ k ∧ k ≤ 3 := by
  unfold opS at h
  split at h
  · cases h
  · rename_i k' hk
    cases h
    have := find_in hk
    exact ⟨this.1, by omega⟩
theorem markI_in {c : UInt8} (h : markI c ≠ 0) : 1 ≤ markI c ∧ markI c ≤ 4 := by
  unfold markI at *
  split
  · omega
  · split
    · omega
    · split
      · omega
      · split
        · omega
        · rename_i h1 h2 h3 h4
          rw [if_neg h1, if_neg h2, if_neg h3, if_neg h4] at h
          exact absurd rfl h
theorem bind_ok {α β : Type} {x : E α} {f : α → E β} {b : β} (h : x >>= f = .ok b) : ∃ a, x = .ok a ∧ f a = .ok b := by
  cases x with
  | error e => cases h
  | ok a => exact ⟨a, rfl, h⟩
theorem clause_got {qs : R → E (QT × R)} {d : Nat} (hq : ∀ t q r, qs t = .ok (q, r) → Got I d q) : ∀ {m : Nat} {r : R} {ks : List QT} {r1 : R}, clauseS qs m r = .ok (ks, r1) → formedL 8 ks = true ∧ depthL ks ≤ d ∧ numsInL I ks
  | 0, r, ks, r1, h => by cases h
  | m + 1, r, ks, r1, h => by
    unfold clauseS at h
    cases hk : skipS r with
    | nil => rw [hk] at h; cases h
    | cons c t =>
      rw [hk] at h
      dsimp only at h
      split at h
      · cases h
      · rename_i hm
        have hmk := markI_in hm
        cases hx : qs t with
        | error e => rw [hx] at h; cases h
        | ok x =>
          obtain ⟨k, r2⟩ := x
          have G := hq t k r2 hx
          rw [hx] at h
          dsimp only at h
          have h1 := G.form (markI c) 8 ⟨fun _ => hmk, fun e => absurd rfl e⟩
          have h2 : depthF (setOc (markI c) k) ≤ d := by rw [depth_setOc]; exact G.deep
          have h3 : numsIn I (setOc (markI c) k) := nums_setOc G.nums
          split at h
          · rename_i r3 _
            cases hy : clauseS qs m r3 with
            | error e => rw [hy] at h; cases h
            | ok y =>
              obtain ⟨ks', r4⟩ := y
              rw [hy] at h
              cases h
              obtain ⟨i1, i2, i3⟩ := clause_got hq hy
              refine ⟨by rw [formedL, h1, i1]; rfl, ?_, ?_⟩
              · rw [depthL]; omega
              · rw [numsInL]; exact ⟨h3, i3⟩
          · cases h
            refine ⟨by rw [formedL, h1]; rfl, ?_, ?_⟩
            · rw [depthL, depthL]; omega
            · rw [numsInL, numsInL]; exact ⟨h3, trivial⟩
theorem got_mk {d : Nat} {k : Int} {f t u : ByteArray} {l h : List Int} {b p : Int} {ks : List QT} (hd : depthL ks + 1 ≤ d) (hn : (∀ z ∈ l, I z) ∧ (∀ z ∈ h, I z) ∧ I b ∧ numsInL I ks) (hk : formedL k ks = true)
    (ho : ∀ (o u' : Int), ((u' = 8 → 1 ≤ o ∧ o ≤ 4) ∧ (u' ≠ 8 → o = 0)) → ownB (.mk k o f t u l h b p ks) u' = true) : Got I d (.mk k 0 f t u l h b p ks) := by
  refine ⟨rfl, fun o u' hu => ?_, by rw [depthF]; exact hd, by rw [numsIn]; exact hn⟩
  rw [setOc, formedB, ho o u' hu, hk]
  rfl
theorem own_mk {k o : Int} {f t u : ByteArray} {l h : List Int} {b p : Int} {ks : List QT} {under : Int} (h0 : (under = 8 → 1 ≤ o ∧ o ≤ 4) ∧ (under ≠ 8 → o = 0)) (h1 : 1 ≤ k ∧ k ≤ 10) (h2 : (3 ≤ k ∧ k ≤ 7 ∨ k = 10) → nameB f = true) (h3 : ¬ (3 ≤ k ∧ k ≤ 7 ∨ k = 10) → f.size = 0)
    (h4 : ¬ (3 ≤ k ∧ k ≤ 6) → t.size = 0) (h5 : k ≠ 6 → u.size = 0) (h6 : k = 7 → 1 ≤ l.length ∧ l.length ≤ 4 ∧ h.length = l.length) (h7 : k = 10 → l.length = 1 ∧ h.length = 0) (h8 : k ≠ 7 → k ≠ 10 → l.length = 0 ∧ h.length = 0)
    (h9 : k = 9 → 0 ≤ b ∧ b ≤ 1048576) (h10 : k ≠ 9 → b = 0) (h11 : k = 10 → 1 ≤ p ∧ p ≤ 3) (h12 : k ≠ 10 → p = 0) (h13 : (k = 9 ∨ k = 10) → ks.length = 1) (h14 : k ≠ 8 → ¬ (k = 9 ∨ k = 10) → ks.length = 0) : ownB (.mk k o f t u l h b p ks) under = true := by
  show ((((((((if under = 8 then decide (1 ≤ o ∧ o ≤ 4) else decide (o = 0)) && decide (1 ≤ k ∧ k ≤ 10)) && (if 3 ≤ k ∧ k ≤ 7 ∨ k = 10 then nameB f else decide (f.size = 0)))
    && (decide (3 ≤ k ∧ k ≤ 6) || decide (t.size = 0))) && (decide (k = 6) || decide (u.size = 0)))
    && (if k = 7 then decide (1 ≤ l.length ∧ l.length ≤ 4 ∧ h.length = l.length) else if k = 10 then decide (l.length = 1 ∧ h.length = 0) else decide (l.length = 0 ∧ h.length = 0)))
    && (if k = 9 then decide (0 ≤ b ∧ b ≤ 1048576) else decide (b = 0)))
    && (if k = 10 then decide (1 ≤ p ∧ p ≤ 3) else decide (p = 0))
    && (if k = 9 ∨ k = 10 then decide (ks.length = 1) else decide (k = 8) || decide (ks.length = 0))) = true
  simp only [Bool.and_eq_true]
  refine ⟨⟨⟨⟨⟨⟨⟨⟨?_, decide_eq_true h1⟩, ?_⟩, ?_⟩, ?_⟩, ?_⟩, ?_⟩, ?_⟩, ?_⟩
  · by_cases e : under = 8
    · rw [if_pos e]; exact decide_eq_true (h0.1 e)
    · rw [if_neg e]; exact decide_eq_true (h0.2 e)
  · by_cases e : 3 ≤ k ∧ k ≤ 7 ∨ k = 10
    · rw [if_pos e]; exact h2 e
    · rw [if_neg e]; exact decide_eq_true (h3 e)
  · by_cases e : 3 ≤ k ∧ k ≤ 6
    · rw [decide_eq_true e]; rfl
    · rw [decide_eq_true (h4 e), Bool.or_true]
  · by_cases e : k = 6
    · rw [decide_eq_true e]; rfl
    · rw [decide_eq_true (h5 e), Bool.or_true]
  · by_cases e : k = 7
    · rw [if_pos e]; exact decide_eq_true (h6 e)
    · by_cases e' : k = 10
      · rw [if_neg e, if_pos e']; exact decide_eq_true (h7 e')
      · rw [if_neg e, if_neg e']; exact decide_eq_true (h8 e e')
  · by_cases e : k = 9
    · rw [if_pos e]; exact decide_eq_true (h9 e)
    · rw [if_neg e]; exact decide_eq_true (h10 e)
  · by_cases e : k = 10
    · rw [if_pos e]; exact decide_eq_true (h11 e)
    · rw [if_neg e]; exact decide_eq_true (h12 e)
  · by_cases e : k = 9 ∨ k = 10
    · rw [if_pos e]; exact decide_eq_true (h13 e)
    · rw [if_neg e]
      by_cases e' : k = 8
      · rw [decide_eq_true e']; rfl
      · rw [decide_eq_true (h14 e' e), Bool.or_true]
theorem Got.one {d : Nat} {q : QT} (G : Got I d q) {k : Int} (hk : k ≠ 8) : formedL k [q] = true ∧ depthL [q] ≤ d ∧ numsInL I [q] := by
  have := G.form 0 k ⟨fun e => absurd e hk, fun _ => rfl⟩
  rw [setOc_zero G.zero] at this
  refine ⟨by rw [formedL, this]; rfl, by rw [depthL, depthL]; have := G.deep; omega, by rw [numsInL, numsInL]; exact ⟨G.nums, trivial⟩⟩
set_option maxHeartbeats 2000000 in
theorem body_got (hI : ∀ r n, par r = some n → I n) (hI0 : I 0) {qs : R → E (QT × R)} {d : Nat} (hq : ∀ t q r, qs t = .ok (q, r) → Got I d q) {k : Int} (hk : 3 ≤ k ∧ k ≤ 10) {r : R} {q : QT} {r1 : R} (h : bodyS num par qs k r = .ok (q, r1)) : Got I (d + 1) q := by
  unfold bodyS at h
  split at h
  · split at h
    · cases h
      refine got_mk (by simp [depthL]) ⟨by simp, by simp, hI0, by rw [numsInL]; trivial⟩ rfl fun o u hu => ?_
      apply own_mk hu <;> first | omega | (intros; rfl) | (intros; omega) | (intros; exact ⟨rfl, rfl⟩)
    · obtain ⟨⟨ks, r2⟩, hc, h⟩ := bind_ok h
      obtain ⟨r3, _, h⟩ := bind_ok h
      cases h
      obtain ⟨c1, c2, c3⟩ := clause_got hq hc
      refine got_mk (by omega) ⟨by simp, by simp, hI0, c3⟩ c1 fun o u hu => ?_
      apply own_mk hu <;> first | omega | (intros; rfl) | (intros; omega) | (intros; exact ⟨rfl, rfl⟩)
  · split at h
    · obtain ⟨⟨b, r2⟩, hb, h⟩ := bind_ok h
      dsimp only at h
      have hbI := num_in hI hb
      split at h
      · cases h
      · rename_i hr
        obtain ⟨r3, _, h⟩ := bind_ok h
        obtain ⟨⟨q1, r4⟩, hq1, h⟩ := bind_ok h
        obtain ⟨r5, _, h⟩ := bind_ok h
        cases h
        obtain ⟨c1, c2, c3⟩ := (hq _ _ _ hq1).one (k := 9) (by decide)
        refine got_mk (Nat.add_le_add_right c2 1) ⟨by simp, by simp, hbI, c3⟩ c1 fun o u hu => ?_
        apply own_mk hu <;> first | omega | (intros; rfl) | (intros; omega) | (intros; exact ⟨rfl, rfl⟩)
    · split at h
      · obtain ⟨⟨p, r2⟩, ho, h⟩ := bind_ok h
        obtain ⟨r3, _, h⟩ := bind_ok h
        obtain ⟨⟨f, r4⟩, hf, h⟩ := bind_ok h
        obtain ⟨r5, _, h⟩ := bind_ok h
        obtain ⟨⟨n, r6⟩, hn, h⟩ := bind_ok h
        obtain ⟨r7, _, h⟩ := bind_ok h
        obtain ⟨⟨q1, r8⟩, hq1, h⟩ := bind_ok h
        obtain ⟨r9, _, h⟩ := bind_ok h
        cases h
        have hp := op_in ho
        have hnm := name_in hf
        have hnI := num_in hI hn
        obtain ⟨c1, c2, c3⟩ := (hq _ _ _ hq1).one (k := 10) (by decide)
        refine got_mk (Nat.add_le_add_right c2 1) ⟨by simpa using hnI, by simp, hI0, c3⟩ c1 fun o u hu => ?_
        apply own_mk hu <;> first | omega | (intros; exact hnm) | (intros; rfl) | (intros; omega) | (intros; exact ⟨rfl, rfl⟩)
      · split at h
        · obtain ⟨⟨f, r2⟩, hf, h⟩ := bind_ok h
          obtain ⟨r3, _, h⟩ := bind_ok h
          obtain ⟨⟨lo, r4⟩, hl, h⟩ := bind_ok h
          obtain ⟨r5, _, h⟩ := bind_ok h
          obtain ⟨⟨hi, r6⟩, hh, h⟩ := bind_ok h
          dsimp only at h
          split at h
          · cases h
          · rename_i hlen
            obtain ⟨r7, _, h⟩ := bind_ok h
            cases h
            have hnm := name_in hf
            obtain ⟨l0, hl⟩ := sev_in hI hl
            obtain ⟨_, hh⟩ := sev_in hI hh
            have l1 := List.length_pos_iff.2 l0
            refine got_mk (by simp [depthL]) ⟨hl, hh, hI0, by rw [numsInL]; trivial⟩ rfl fun o u hu => ?_
            apply own_mk hu <;> first | omega | (intros; exact hnm) | (intros; rfl) | (intros; omega) | (intros; exact ⟨rfl, rfl⟩)
        · obtain ⟨⟨f, r2⟩, hf, h⟩ := bind_ok h
          obtain ⟨r3, _, h⟩ := bind_ok h
          obtain ⟨⟨t, r4⟩, ht, h⟩ := bind_ok h
          dsimp only at h
          have hnm := name_in hf
          split at h
          · obtain ⟨r5, _, h⟩ := bind_ok h
            obtain ⟨⟨u', r6⟩, hu', h⟩ := bind_ok h
            obtain ⟨r7, _, h⟩ := bind_ok h
            cases h
            refine got_mk (by simp [depthL]) ⟨by simp, by simp, hI0, by rw [numsInL]; trivial⟩ rfl fun o u hu => ?_
            apply own_mk hu <;> first | omega | (intros; exact hnm) | (intros; rfl) | (intros; omega) | (intros; exact ⟨rfl, rfl⟩)
          · obtain ⟨r5, _, h⟩ := bind_ok h
            cases h
            refine got_mk (by simp [depthL]) ⟨by simp, by simp, hI0, by rw [numsInL]; trivial⟩ rfl fun o u hu => ?_
            apply own_mk hu <;> first | omega | (intros; exact hnm) | (intros; rfl) | (intros; omega) | (intros; exact ⟨rfl, rfl⟩)
theorem query_got (hI : ∀ r n, par r = some n → I n) (hI0 : I 0) : ∀ {d : Nat} {r : R} {q : QT} {r1 : R}, queryS num par d r = .ok (q, r1) → Got I d q
  | 0, r, q, r1, h => by rw [queryS] at h; split at h <;> cases h
  | d + 1, r, q, r1, h => by
    rw [queryS] at h
    have hkf := (kind_fine (d + 1) r).2
    cases hx : kindS (d + 1) r with
    | error e => rw [hx] at h; cases h
    | ok x =>
      obtain ⟨k, r2⟩ := x
      obtain ⟨k1, k2, _, _⟩ := hkf k r2 hx
      rw [hx] at h
      dsimp only at h
      split at h
      · cases h
        refine got_mk (by simp [depthL]) ⟨by simp, by simp, hI0, by rw [numsInL]; trivial⟩ rfl fun o u hu => ?_
        apply own_mk hu <;> first | omega | (intros; rfl) | (intros; omega) | (intros; exact ⟨rfl, rfl⟩)
      · cases hw : wantS 40 r2 with
        | error e => rw [hw] at h; cases h
        | ok r3 =>
          rw [hw] at h
          exact body_got hI hI0 (fun t q r hq => query_got hI hI0 hq) (by omega) h
/-- WHAT IS READ IS FORMED. -/
theorem parse_got (hI : ∀ r n, par r = some n → I n) (hI0 : I 0) {r : R} {q : QT} (h : parseS num par r = .ok q) : formedB 0 q = true ∧ depthF q ≤ 6 ∧ numsIn I q := by
  unfold parseS at h
  split at h
  · cases h
  · cases hx : queryS num par 6 r with
    | error e => rw [hx] at h; cases h
    | ok x =>
      obtain ⟨q', r1⟩ := x
      have G := query_got hI hI0 hx
      rw [hx] at h
      dsimp only at h
      split at h
      · cases h
        have := G.form 0 0 ⟨fun e => (by cases e), fun _ => rfl⟩
        rw [setOc_zero G.zero] at this
        exact ⟨this, G.deep, G.nums⟩
      · cases h
end
end QryP
