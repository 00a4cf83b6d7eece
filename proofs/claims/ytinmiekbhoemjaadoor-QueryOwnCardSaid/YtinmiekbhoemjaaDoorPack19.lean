/- The variables that the parser reads, out of a row's laid list. How much what is read holds, at most, in plain Lean: by what reading takes. -/
import Derived.Test.YtinmiekbhoemjaaDoorPack4
import Derived.Test.YtinmiekbhoemjaaDoorQryPar3
import Derived.Test.YtinmiekbhoemjaaDoorQrySzP
section
set_option linter.unusedVariables false
namespace Go.Proofs.YtinmiekbhoemjaaDoor.QryTabs5
open Go.RowKit Go.Lib OrdP Kit OrdLib QryTabs
theorem gS : Tryd.prog.globalNamed "strconv.ErrSyntax" = some 2 := by kernel_rfl
theorem gSt : (Tryd.prog.globals[2]?).map (·.type) = some 63 := by kernel_rfl
theorem ptabs_of {W : World} {a b : String × DataW Unit} {text text2 : List UInt8} {rest : List (String × DataW Unit)}
    (h : laidMet Tryd.prog (a :: b :: ("internal/strconv.uint64pow10", Lib.tabData .u64 Lib.pow10Tab) :: ("strconv.ErrRange", .iface "*errors.errorString" (.ptr (.agg [.lit (.string text)]))) :: ("strconv.ErrSyntax", .iface "*errors.errorString" (.ptr (.agg [.lit (.string text2)]))) :: rest) W) : Qry.PTabs W := by
  obtain ⟨a0, s0, hv0, -, -, -⟩ := laid_sentinel h.tail.tail.tail gR gRt Tryd.underlying63 row_err Tryd.underlying123 Tryd.underlying125 rfl rfl Tryd.underlying9 (by kernel_rfl) (by kernel_rfl)
  obtain ⟨a1, s1, hv1, -, -, -⟩ := laid_sentinel h.tail.tail.tail.tail gS gSt Tryd.underlying63 row_err Tryd.underlying123 Tryd.underlying125 rfl rfl Tryd.underlying9 (by kernel_rfl) (by kernel_rfl)
  have h0 := World.var?_cell gR hv0 0
  have h1 := World.var?_cell gS hv1 0
  exact ⟨⟨.iface 123 (.pointer (some a1)), by simpa using h1, .inr ⟨_, _, rfl⟩⟩, ⟨.iface 123 (.pointer (some a0)), by simpa using h0, .inr ⟨_, _, rfl⟩⟩, pow_of h⟩
theorem ptabs {W : World} (h : laidMet Tryd.prog laidL W) : Qry.PTabs W := ptabs_of (a := _) (b := _) h
end Go.Proofs.YtinmiekbhoemjaaDoor.QryTabs5
end
section
namespace QryP
open SchP

mutual
/-- How much a query holds. -/
def mass : QT → Nat
  | .mk _ _ f t u lo hi _ _ ks => f.size + t.size + u.size + lo.length + hi.length + massL ks + 10
def massL : List QT → Nat
  | [] => 0
  | q :: ks => mass q + massL ks
end
theorem mass_setOc (o : Int) : ∀ q : QT, mass (setOc o q) = mass q
  | .mk _ _ _ _ _ _ _ _ _ _ => by rw [setOc, mass, mass]
theorem name_ms {r : R} {f : ByteArray} {r1 : R} (h : nameS r = .ok (f, r1)) : f.size + r1.length ≤ r.length := by
  unfold nameS at h
  have h1 := skip_le r
  have h2 := take_drop letB (skipS r)
  split at h
  · cases h; rw [bytes_size]; omega
  · cases h
theorem str_ms (at_ : Nat) : ∀ (k : Nat) (r : R), r.length ≤ k → ∀ b r1, strS at_ r = .ok (b, r1) → b.length + r1.length ≤ r.length
  | _, [], _, b, r1, e => by rw [strS] at e; cases e
  | 0, c :: t, h, _, _, _ => by simp at h
  | k + 1, c :: t, h, b, r1, e => by
    have push : ∀ (x : UInt8) (t' : R) (b : R), t'.length ≤ t.length → pushS x (strS at_ t') = .ok (b, r1) → b.length + r1.length ≤ (c :: t).length := by
      intro x t' b ht e
      match hx : strS at_ t', e with
      | .ok (b', r'), e =>
        have hb := str_ms at_ k t' (by simp at h; omega) b' r' hx
        rw [pushS] at e
        cases e
        simp only [List.length_cons]; omega
      | .error x, e => rw [pushS] at e; cases e
    rw [strS.eq_def] at e
    dsimp only at e
    split at e
    · cases e; simp
    · split at e
      · cases e
      · split at e
        · exact push _ t b (Nat.le_refl _) e
        · cases t with
          | nil => cases e
          | cons d t' =>
            dsimp only at e
            split at e
            · exact push _ t' b (by simp) e
            · match t', e with
              | [], e => cases e
              | [a], e => cases e
              | a :: b' :: t'', e =>
                dsimp only at e
                split at e
                · split at e
                  · exact push _ t'' b (by simp; omega) e
                  · cases e
                · cases e
theorem text_ms {r : R} {f : ByteArray} {r1 : R} (h : textS r = .ok (f, r1)) : f.size + r1.length ≤ r.length := by
  unfold textS at h
  cases hw : wantS 34 r with
  | error e => rw [hw] at h; cases h
  | ok t =>
    have hl := want_ok hw
    rw [hw] at h
    dsimp only at h
    cases hs : strS (skipS r).length t with
    | error e => rw [hs] at h; cases h
    | ok x =>
      obtain ⟨b, r'⟩ := x
      rw [hs] at h
      cases h
      have := str_ms (skipS r).length t.length t (Nat.le_refl _) b _ hs
      rw [bytes_size]; omega
section
variable {num : Int → R} {par : R → Option Int}
theorem sev_ms : ∀ {m : Nat} {r : R} {l : List Int} {r1 : R}, sevS num par m r = .ok (l, r1) → l.length + r1.length ≤ r.length + 1
  | 0, r, l, r1, h => by cases h
  | m + 1, r, l, r1, h => by
    unfold sevS at h
    cases hx : numS num par r with
    | error e => rw [hx] at h; cases h
    | ok x =>
      obtain ⟨n, r2⟩ := x
      have h2 := num_ok_le hx
      rw [hx] at h
      dsimp only at h
      have hs := skip_le r2
      cases hk : skipS r2 with
      | nil => rw [hk] at h; cases h; simp
      | cons c t =>
        rw [hk] at h hs
        dsimp only at h
        split at h
        · cases h; simp only [List.length_cons, List.length_nil] at hs ⊢; omega
        · split at h
          · cases h
          · rename_i hne
            cases hy : sevS num par m (c :: t) with
            | error e => rw [hy] at h; cases h
            | ok y =>
              obtain ⟨l', r3⟩ := y
              rw [hy] at h
              cases h
              have := sev_ms hy
              simp only [List.length_cons] at this hne hs ⊢; omega
theorem clause_ms {qs : R → E (QT × R)} (hq : ∀ t q r, qs t = .ok (q, r) → mass q + 10 * r.length ≤ 10 * t.length) : ∀ {m : Nat} {r : R} {ks : List QT} {r1 : R}, clauseS qs m r = .ok (ks, r1) → massL ks + 10 * r1.length ≤ 10 * r.length
  | 0, r, ks, r1, h => by cases h
  | m + 1, r, ks, r1, h => by
    unfold clauseS at h
    have hs := skip_le r
    cases hk : skipS r with
    | nil => rw [hk] at h; cases h
    | cons c t =>
      rw [hk] at h hs
      dsimp only at h
      simp only [List.length_cons] at hs
      split at h
      · cases h
      · cases hx : qs t with
        | error e => rw [hx] at h; cases h
        | ok x =>
          obtain ⟨k, r2⟩ := x
          have G := hq t k r2 hx
          rw [hx] at h
          have hs2 := skip_le r2
          dsimp only at h
          split at h
          · rename_i r3 he
            rw [he] at hs2
            simp only [List.length_cons] at hs2
            cases hy : clauseS qs m r3 with
            | error e => rw [hy] at h; cases h
            | ok y =>
              obtain ⟨ks', r4⟩ := y
              rw [hy] at h
              cases h
              have i1 := clause_ms hq hy
              rw [massL, mass_setOc]; omega
          · cases h
            rw [massL, massL, mass_setOc]; omega
theorem body_ms {qs : R → E (QT × R)} (hq : ∀ t q r, qs t = .ok (q, r) → mass q + 10 * r.length ≤ 10 * t.length) {k : Int} {r : R} {q : QT} {r1 : R} (h : bodyS num par qs k r = .ok (q, r1)) : mass q + 10 * r1.length ≤ 10 * r.length + 10 := by
  unfold bodyS at h
  split at h
  · have hs := skip_le r
    split at h
    · rename_i t he
      rw [he] at hs
      cases h
      simp only [mass, massL, emp_size, List.length_nil, List.length_cons] at hs ⊢; omega
    · obtain ⟨⟨ks, r2⟩, hc, h⟩ := bind_ok h
      obtain ⟨r3, w1, h⟩ := bind_ok h
      cases h
      have c1 := clause_ms hq hc
      have a1 := want_ok w1
      simp only [mass, emp_size, List.length_nil]; omega
  · split at h
    · obtain ⟨⟨b, r2⟩, hb, h⟩ := bind_ok h
      dsimp only at h
      have l1 := num_ok_le hb
      split at h
      · cases h
      · obtain ⟨r3, hw, h⟩ := bind_ok h
        have l2 := want_ok hw
        obtain ⟨⟨q1, r4⟩, hq1, h⟩ := bind_ok h
        obtain ⟨r5, w1, h⟩ := bind_ok h
        cases h
        have a1 := want_ok w1
        have a2 := hq _ _ _ hq1
        try dsimp only at a1 a2
        simp only [mass, massL, emp_size, List.length_nil]; omega
    · split at h
      · obtain ⟨⟨p, r2⟩, ho, h⟩ := bind_ok h
        obtain ⟨r3, w1, h⟩ := bind_ok h
        obtain ⟨⟨f, r4⟩, hnf, h⟩ := bind_ok h
        obtain ⟨r5, w2, h⟩ := bind_ok h
        obtain ⟨⟨m, r6⟩, hn, h⟩ := bind_ok h
        obtain ⟨r7, w3, h⟩ := bind_ok h
        obtain ⟨⟨q1, r8⟩, hq1, h⟩ := bind_ok h
        obtain ⟨r9, w4, h⟩ := bind_ok h
        cases h
        have a1 := op_ok_le ho
        have a2 := want_ok w1
        have a4 := name_ms hnf
        have a5 := want_ok w2
        have a6 := num_ok_le hn
        have a7 := want_ok w3
        have a8 := hq _ _ _ hq1
        have a9 := want_ok w4
        try dsimp only at a1 a2 a4 a5 a6 a7 a8 a9
        simp only [mass, massL, emp_size, List.length_nil, List.length_cons]; omega
      · split at h
        · obtain ⟨⟨f, r2⟩, hnf, h⟩ := bind_ok h
          obtain ⟨r3, w1, h⟩ := bind_ok h
          obtain ⟨⟨lo, r4⟩, hl, h⟩ := bind_ok h
          obtain ⟨r5, w2, h⟩ := bind_ok h
          obtain ⟨⟨hi, r6⟩, hh, h⟩ := bind_ok h
          dsimp only at h
          split at h
          · cases h
          · obtain ⟨r7, w3, h⟩ := bind_ok h
            cases h
            have a4 := name_ms hnf
            have a5 := want_ok w1
            have a6 := sev_ms hl
            have a8 := want_ok w2
            have a9 := sev_ms hh
            have b1 := want_ok w3
            try dsimp only at a4 a5 a6 a8 a9 b1
            simp only [mass, massL, emp_size]; omega
        · obtain ⟨⟨f, r2⟩, hnf, h⟩ := bind_ok h
          obtain ⟨r3, w1, h⟩ := bind_ok h
          obtain ⟨⟨t, r4⟩, ht, h⟩ := bind_ok h
          have a4 := name_ms hnf
          have a5 := want_ok w1
          have a6 := text_ms ht
          dsimp only at h
          split at h
          · obtain ⟨r5, w2, h⟩ := bind_ok h
            obtain ⟨⟨u', r6⟩, hu', h⟩ := bind_ok h
            obtain ⟨r7, w3, h⟩ := bind_ok h
            cases h
            have a8 := want_ok w2
            have a9 := text_ms hu'
            have b1 := want_ok w3
            try dsimp only at a4 a5 a6 a8 a9 b1
            simp only [mass, massL, List.length_nil]; omega
          · obtain ⟨r5, w2, h⟩ := bind_ok h
            cases h
            have a8 := want_ok w2
            try dsimp only at a4 a5 a6 a8
            simp only [mass, massL, emp_size, List.length_nil]; omega
theorem query_ms : ∀ {d : Nat} {r : R} {q : QT} {r1 : R}, queryS num par d r = .ok (q, r1) → mass q + 10 * r1.length ≤ 10 * r.length
  | 0, r, q, r1, h => by rw [queryS] at h; split at h <;> cases h
  | d + 1, r, q, r1, h => by
    rw [queryS] at h
    have hkf := (kind_fine (d + 1) r).2
    cases hx : kindS (d + 1) r with
    | error e => rw [hx] at h; cases h
    | ok x =>
      obtain ⟨k, r2⟩ := x
      obtain ⟨k1, k2, k3, _⟩ := hkf k r2 hx
      rw [hx] at h
      dsimp only at h
      split at h
      · cases h
        simp only [mass, massL, emp_size, List.length_nil]; omega
      · cases hw : wantS 40 r2 with
        | error e => rw [hw] at h; cases h
        | ok r3 =>
          rw [hw] at h
          have h1 := want_ok hw
          have h2 := body_ms (fun t q r hq => query_ms hq) h
          omega
/-- What is read holds at most ten times as much as its text. -/
theorem parse_ms {r : R} {q : QT} (h : parseS num par r = .ok q) : mass q ≤ 40960 := by
  unfold parseS at h
  split at h
  · cases h
  · cases hx : queryS num par 6 r with
    | error e => rw [hx] at h; cases h
    | ok x =>
      obtain ⟨q', r1⟩ := x
      have hm := query_ms hx
      rw [hx] at h
      dsimp only at h
      split at h
      · cases h; omega
      · cases h
end
end QryP
end
