/- Queries in variables of their own: loads and stores. (Split off XRewriteComparesWalk.) How bodyS goes, step by step. -/
import Derived.Test.YtinmiekbhoemjaaDoorPack31
import Derived.Test.YtinmiekbhoemjaaDoorQryPar9
section
set_option linter.unusedVariables false
namespace Go.Proofs.YtinmiekbhoemjaaDoor.Qry
open Go.RowKit Words Tree QryP Kit Owned Two

theorem set10_blk {W : World} {g : Nat} {t : TypeId} {c0 c1 c2 c3 c4 c5 c6 c7 c8 c9 : Value} (h : Blk W g t #[c0, c1, c2, c3, c4, c5, c6, c7, c8, c9]) (v0 v1 v2 v3 v4 v5 v6 v7 v8 v9 : Value) : Blk ((((((((((W.setCell ⟨g, 0, none⟩ v0).setCell ⟨g, 1, none⟩ v1).setCell ⟨g, 2, none⟩ v2).setCell ⟨g, 3, none⟩ v3).setCell ⟨g, 4, none⟩ v4).setCell ⟨g, 5, none⟩ v5).setCell ⟨g, 6, none⟩ v6).setCell ⟨g, 7, none⟩ v7).setCell ⟨g, 8, none⟩ v8).setCell ⟨g, 9, none⟩ v9) g t #[v0, v1, v2, v3, v4, v5, v6, v7, v8, v9] := by
  have b0 : Blk (W.setCell ⟨g, 0, none⟩ v0) g t #[v0, c1, c2, c3, c4, c5, c6, c7, c8, c9] := h.set_ 0 v0
  have b1 : Blk ((W.setCell ⟨g, 0, none⟩ v0).setCell ⟨g, 1, none⟩ v1) g t #[v0, v1, c2, c3, c4, c5, c6, c7, c8, c9] := b0.set_ 1 v1
  have b2 : Blk (((W.setCell ⟨g, 0, none⟩ v0).setCell ⟨g, 1, none⟩ v1).setCell ⟨g, 2, none⟩ v2) g t #[v0, v1, v2, c3, c4, c5, c6, c7, c8, c9] := b1.set_ 2 v2
  have b3 : Blk ((((W.setCell ⟨g, 0, none⟩ v0).setCell ⟨g, 1, none⟩ v1).setCell ⟨g, 2, none⟩ v2).setCell ⟨g, 3, none⟩ v3) g t #[v0, v1, v2, v3, c4, c5, c6, c7, c8, c9] := b2.set_ 3 v3
  have b4 : Blk (((((W.setCell ⟨g, 0, none⟩ v0).setCell ⟨g, 1, none⟩ v1).setCell ⟨g, 2, none⟩ v2).setCell ⟨g, 3, none⟩ v3).setCell ⟨g, 4, none⟩ v4) g t #[v0, v1, v2, v3, v4, c5, c6, c7, c8, c9] := b3.set_ 4 v4
  have b5 : Blk ((((((W.setCell ⟨g, 0, none⟩ v0).setCell ⟨g, 1, none⟩ v1).setCell ⟨g, 2, none⟩ v2).setCell ⟨g, 3, none⟩ v3).setCell ⟨g, 4, none⟩ v4).setCell ⟨g, 5, none⟩ v5) g t #[v0, v1, v2, v3, v4, v5, c6, c7, c8, c9] := b4.set_ 5 v5
  have b6 : Blk (((((((W.setCell ⟨g, 0, none⟩ v0).setCell ⟨g, 1, none⟩ v1).setCell ⟨g, 2, none⟩ v2).setCell ⟨g, 3, none⟩ v3).setCell ⟨g, 4, none⟩ v4).setCell ⟨g, 5, none⟩ v5).setCell ⟨g, 6, none⟩ v6) g t #[v0, v1, v2, v3, v4, v5, v6, c7, c8, c9] := b5.set_ 6 v6
  have b7 : Blk ((((((((W.setCell ⟨g, 0, none⟩ v0).setCell ⟨g, 1, none⟩ v1).setCell ⟨g, 2, none⟩ v2).setCell ⟨g, 3, none⟩ v3).setCell ⟨g, 4, none⟩ v4).setCell ⟨g, 5, none⟩ v5).setCell ⟨g, 6, none⟩ v6).setCell ⟨g, 7, none⟩ v7) g t #[v0, v1, v2, v3, v4, v5, v6, v7, c8, c9] := b6.set_ 7 v7
  have b8 : Blk (((((((((W.setCell ⟨g, 0, none⟩ v0).setCell ⟨g, 1, none⟩ v1).setCell ⟨g, 2, none⟩ v2).setCell ⟨g, 3, none⟩ v3).setCell ⟨g, 4, none⟩ v4).setCell ⟨g, 5, none⟩ v5).setCell ⟨g, 6, none⟩ v6).setCell ⟨g, 7, none⟩ v7).setCell ⟨g, 8, none⟩ v8) g t #[v0, v1, v2, v3, v4, v5, v6, v7, v8, c9] := b7.set_ 8 v8
  have b9 : Blk ((((((((((W.setCell ⟨g, 0, none⟩ v0).setCell ⟨g, 1, none⟩ v1).setCell ⟨g, 2, none⟩ v2).setCell ⟨g, 3, none⟩ v3).setCell ⟨g, 4, none⟩ v4).setCell ⟨g, 5, none⟩ v5).setCell ⟨g, 6, none⟩ v6).setCell ⟨g, 7, none⟩ v7).setCell ⟨g, 8, none⟩ v8).setCell ⟨g, 9, none⟩ v9) g t #[v0, v1, v2, v3, v4, v5, v6, v7, v8, v9] := b8.set_ 9 v9
  exact b9
theorem set10_grown (W : World) (g : Nat) (v0 v1 v2 v3 v4 v5 v6 v7 v8 v9 : Value) : W.grownBy ((((((((((W.setCell ⟨g, 0, none⟩ v0).setCell ⟨g, 1, none⟩ v1).setCell ⟨g, 2, none⟩ v2).setCell ⟨g, 3, none⟩ v3).setCell ⟨g, 4, none⟩ v4).setCell ⟨g, 5, none⟩ v5).setCell ⟨g, 6, none⟩ v6).setCell ⟨g, 7, none⟩ v7).setCell ⟨g, 8, none⟩ v8).setCell ⟨g, 9, none⟩ v9) (some g) := by
  have b0 : W.grownBy (W.setCell ⟨g, 0, none⟩ v0) (some g) := only_setCell (World.grownBy.refl W _) (.inl rfl) v0
  have b1 : W.grownBy ((W.setCell ⟨g, 0, none⟩ v0).setCell ⟨g, 1, none⟩ v1) (some g) := only_setCell b0 (.inl rfl) v1
  have b2 : W.grownBy (((W.setCell ⟨g, 0, none⟩ v0).setCell ⟨g, 1, none⟩ v1).setCell ⟨g, 2, none⟩ v2) (some g) := only_setCell b1 (.inl rfl) v2
  have b3 : W.grownBy ((((W.setCell ⟨g, 0, none⟩ v0).setCell ⟨g, 1, none⟩ v1).setCell ⟨g, 2, none⟩ v2).setCell ⟨g, 3, none⟩ v3) (some g) := only_setCell b2 (.inl rfl) v3
  have b4 : W.grownBy (((((W.setCell ⟨g, 0, none⟩ v0).setCell ⟨g, 1, none⟩ v1).setCell ⟨g, 2, none⟩ v2).setCell ⟨g, 3, none⟩ v3).setCell ⟨g, 4, none⟩ v4) (some g) := only_setCell b3 (.inl rfl) v4
  have b5 : W.grownBy ((((((W.setCell ⟨g, 0, none⟩ v0).setCell ⟨g, 1, none⟩ v1).setCell ⟨g, 2, none⟩ v2).setCell ⟨g, 3, none⟩ v3).setCell ⟨g, 4, none⟩ v4).setCell ⟨g, 5, none⟩ v5) (some g) := only_setCell b4 (.inl rfl) v5
  have b6 : W.grownBy (((((((W.setCell ⟨g, 0, none⟩ v0).setCell ⟨g, 1, none⟩ v1).setCell ⟨g, 2, none⟩ v2).setCell ⟨g, 3, none⟩ v3).setCell ⟨g, 4, none⟩ v4).setCell ⟨g, 5, none⟩ v5).setCell ⟨g, 6, none⟩ v6) (some g) := only_setCell b5 (.inl rfl) v6
  have b7 : W.grownBy ((((((((W.setCell ⟨g, 0, none⟩ v0).setCell ⟨g, 1, none⟩ v1).setCell ⟨g, 2, none⟩ v2).setCell ⟨g, 3, none⟩ v3).setCell ⟨g, 4, none⟩ v4).setCell ⟨g, 5, none⟩ v5).setCell ⟨g, 6, none⟩ v6).setCell ⟨g, 7, none⟩ v7) (some g) := only_setCell b6 (.inl rfl) v7
  have b8 : W.grownBy (((((((((W.setCell ⟨g, 0, none⟩ v0).setCell ⟨g, 1, none⟩ v1).setCell ⟨g, 2, none⟩ v2).setCell ⟨g, 3, none⟩ v3).setCell ⟨g, 4, none⟩ v4).setCell ⟨g, 5, none⟩ v5).setCell ⟨g, 6, none⟩ v6).setCell ⟨g, 7, none⟩ v7).setCell ⟨g, 8, none⟩ v8) (some g) := only_setCell b7 (.inl rfl) v8
  have b9 : W.grownBy ((((((((((W.setCell ⟨g, 0, none⟩ v0).setCell ⟨g, 1, none⟩ v1).setCell ⟨g, 2, none⟩ v2).setCell ⟨g, 3, none⟩ v3).setCell ⟨g, 4, none⟩ v4).setCell ⟨g, 5, none⟩ v5).setCell ⟨g, 6, none⟩ v6).setCell ⟨g, 7, none⟩ v7).setCell ⟨g, 8, none⟩ v8).setCell ⟨g, 9, none⟩ v9) (some g) := only_setCell b8 (.inl rfl) v9
  exact b9
end Go.Proofs.YtinmiekbhoemjaaDoor.Qry
end
section
set_option linter.unusedVariables false
namespace Go.Proofs.YtinmiekbhoemjaaDoor.Qry
open QryP SchP
/-- What stands behind a query's word. -/
def bodyW (d : Nat) (n : Int) (r1 : R) : E (QT × R) := match wantS 40 r1 with
  | .error e => .error e
  | .ok r2 => bodyS numT parT (queryS numT parT d) n r2
theorem body_o (qs : R → E (QT × R)) (n : Int) (r : R) (h : 3 ≤ n ∧ n ≤ 7) : bodyS numT parT qs n r = match nameS r with
    | .error e => .error e
    | .ok (f, r1) => match wantS 44 r1 with
      | .error e => .error e
      | .ok r2 => match restF n f r2 with
        | .error e => .error e
        | .ok (q, r3) => match wantS 41 r3 with
          | .error e => .error e
          | .ok r4 => .ok (q, r4) := by
  unfold bodyS
  rw [if_neg (by omega), if_neg (by omega), if_neg (by omega)]
  by_cases h7 : n = 7
  · subst h7
    rw [if_pos rfl]
    unfold restF
    cases nameS r with
    | error e => rfl
    | ok p =>
      obtain ⟨f, r1⟩ := p
      dsimp only [bind, Except.bind]
      cases wantS 44 r1 with
      | error e => rfl
      | ok r2 =>
        dsimp only
        rw [if_pos rfl]
        cases sevS numT parT (r2.length + 1) r2 with
        | error e => rfl
        | ok p =>
          obtain ⟨lo, r3⟩ := p
          dsimp only
          cases wantS 44 r3 with
          | error e => rfl
          | ok r4 =>
            dsimp only
            cases sevS numT parT (r4.length + 1) r4 with
            | error e => rfl
            | ok p =>
              obtain ⟨hi, r5⟩ := p
              dsimp only
              by_cases hb : lo.length ≠ hi.length ∨ 4 < lo.length
              · rw [if_pos hb, if_pos hb]
              · rw [if_neg hb, if_neg hb]
                dsimp only
                rw [want_skip]
                cases wantS 41 r5 with
                | error e => rfl
                | ok r6 => rfl
  · rw [if_neg h7]
    unfold restF
    cases nameS r with
    | error e => rfl
    | ok p =>
      obtain ⟨f, r1⟩ := p
      dsimp only [bind, Except.bind]
      cases wantS 44 r1 with
      | error e => rfl
      | ok r2 =>
        dsimp only
        rw [if_neg h7]
        cases textS r2 with
        | error e => rfl
        | ok p =>
          obtain ⟨t, r3⟩ := p
          dsimp only
          by_cases h6 : n = 6
          · subst h6
            rw [if_pos rfl, if_pos rfl]
            cases wantS 44 r3 with
            | error e => rfl
            | ok r4 =>
              dsimp only
              cases textS r4 with
              | error e => rfl
              | ok p =>
                obtain ⟨u, r5⟩ := p
                dsimp only
                cases wantS 41 r5 with
                | error e => rfl
                | ok r6 => rfl
          · rw [if_neg h6, if_neg h6]
            dsimp only
            cases wantS 41 r3 with
            | error e => rfl
            | ok r6 => rfl
theorem body_9 (qs : R → E (QT × R)) (r : R) : bodyS numT parT qs 9 r = match numS numT parT r with
    | .error e => .error e
    | .ok (b, r1) => if b < 0 ∨ 1048576 < b then .error ((skipS r).length, 180) else match wantS 44 r1 with
      | .error e => .error e
      | .ok r2 => match qs r2 with
        | .error e => .error e
        | .ok (q, r3) => match wantS 41 r3 with
          | .error e => .error e
          | .ok r4 => .ok (.mk 9 0 emp emp emp [] [] b 0 [q], r4) := by
  unfold bodyS
  rw [if_neg (by decide), if_pos rfl]
  cases numS numT parT r with
  | error e => rfl
  | ok p =>
    obtain ⟨b, r1⟩ := p
    dsimp only [bind, Except.bind]
    by_cases hb : b < 0 ∨ 1048576 < b
    · rw [if_pos hb, if_pos hb]
    · rw [if_neg hb, if_neg hb]
      cases wantS 44 r1 with
      | error e => rfl
      | ok r2 =>
        dsimp only
        cases qs r2 with
        | error e => rfl
        | ok p =>
          obtain ⟨q, r3⟩ := p
          dsimp only
          cases wantS 41 r3 with
          | error e => rfl
          | ok r4 => rfl
end Go.Proofs.YtinmiekbhoemjaaDoor.Qry
end
