/- Rows of numbers that lie apart: each is written over and gone on with, no other one changes. Over any program. -/
import Derived.Test.YtfckomjbgopmaaaGreatDoorPack14
import Derived.Test.YtfckomjbgopmaaaGreatDoorPack15
import Derived.Test.YtfckomjbgopmaaaGreatDoorPack4
set_option linter.unusedVariables false
namespace Go.Proofs.YtfckomjbgopmaaaGreatDoor.Words
open Go.RowKit Go.WideShapes Go.ChangeShapes
section
variable {P : Program} (w : World)
/-- append onto a row of the call's own: in its block, or in a new one, and then nothing else changes. -/
theorem run_append_two (base : Nat) (t ty e : TypeId) (i : TypeInfo) (z : Value) (size bytes : Nat) (ht : P.underlying t = some (.slice e)) (hi : P.info? e = some i) (hz : i.zero = some z)
    (hsize : i.size = size) (hby : i.bytes = bytes) (hzs : z.cells.size = size) (hsz : 0 < size)
    (v : Value) (n : Nat) (xs : List Value) (hown : w.ownsRow base e size v n xs)
    (ad : Addr) (m c : Nat) (news : List Value) (hl : news.length = m * size) (hnews : ∀ j u, news[j]? = some u → w.cell? (ad.add j) = some u) (h1 : ∀ u ∈ news, u.oneCell' = true)
    (hm : 0 < m) (h63 : n + m ≤ maxLen) (hbytes : (n + m) * bytes ≤ 140737488355328) (hbase : base ≤ w.heap.size) :
    ∃ v' w', (Builtin.append_ #[t, t] ty #[v, .slice (some ad) m c]).run P w = .ok v' w' ∧ w'.ownsRow base e size v' (n + m) (xs ++ news) ∧ w.grownBy w' v.ownBlock ∧
      ((∃ g cap, v = .slice (some ⟨g, 0, none⟩) n cap ∧ v' = .slice (some ⟨g, 0, none⟩) (n + m) cap) ∨ (v'.ownBlock = some w.heap.size ∧ w.grownBy w' none)) := by
  obtain ⟨v', w', hr, h2, h3, _, h5⟩ := run_append_own_at (P := P) w base t ty e i z size bytes ht hi hz hsize hby hzs hsz v n xs hown ad m c news hl hnews h1 h63 hbytes hbase
  refine ⟨v', w', hr, h2, h3, ?_⟩
  subst hsize hby
  rcases hown.2 with ⟨rfl, rfl⟩ | ⟨g, cap, cur, rfl, hbg, hg, hnc, hcm, hcs, htake⟩
  · refine .inr ⟨?_, h3⟩
    obtain ⟨g, cap, rfl, _, _⟩ := h2.form (by omega)
    rcases h5 with h5 | h5
    · cases h5
    · exact h5
  · by_cases hroom : n + m ≤ cap
    · have hq := run_append_room (P := P) w t ty e i ht hi g n cap cur hg ad m c news hl hnews h1 hroom (by rw [hl, hcs, ← Nat.add_mul]; exact Nat.mul_le_mul_right _ hroom)
      rw [hq] at hr
      injection hr with hr1 hr2
      exact .inl ⟨g, cap, rfl, hr1.symm⟩
    · have hsmall : n + m ≤ 9223372036854775807 := by simp only [maxLen] at h63; omega
      have hq := run_append_grow (P := P) w t ty e i z ht hi hz ⟨g, 0, none⟩ n cap xs hown.1 (hown.cells (g := g) rfl) ad m c news hl hnews (by omega) (by omega) (growslice_fits (by omega) hbytes)
      rw [hq] at hr
      injection hr with hr1 hr2
      subst hr1 hr2
      exact .inr ⟨rfl, rfl, rfl, rfl, by simp, fun k hk _ => Below.heap_alloc w.drew _ k hk⟩

theorem wp_append_two {o : Oper} {a : Act} {K : Act → World → Prop} {Q : Exit → Act → World → Prop} (s x : Operand) (t : TypeId)
    (ho : o.op = .call { callee := .builtin .append, args := #[s, x], argTypes := #[t, t] })
    (base : Nat) (e : TypeId) (i : TypeInfo) (z : Value) (size bytes : Nat) (ht : P.underlying t = some (.slice e)) (hi : P.info? e = some i) (hz : i.zero = some z)
    (hsize : i.size = size) (hby : i.bytes = bytes) (hzs : z.cells.size = size) (hsz : 0 < size)
    (v : Value) (n : Nat) (xs : List Value) (hs : a.eval s = v) (hown : w.ownsRow base e size v n xs)
    (ad : Addr) (m c : Nat) (news : List Value) (hx : a.eval x = .slice (some ad) m c) (hl : news.length = m * size) (hnews : ∀ j u, news[j]? = some u → w.cell? (ad.add j) = some u) (h1 : ∀ u ∈ news, u.oneCell' = true)
    (hm : 0 < m) (h63 : n + m ≤ maxLen) (hbytes : (n + m) * bytes ≤ 140737488355328) (hbase : base ≤ w.heap.size)
    (h : ∀ v' w', w'.ownsRow base e size v' (n + m) (xs ++ news) → w.grownBy w' v.ownBlock → ((∃ g cap, v = .slice (some ⟨g, 0, none⟩) n cap ∧ v' = .slice (some ⟨g, 0, none⟩) (n + m) cap) ∨ (v'.ownBlock = some w.heap.size ∧ w.grownBy w' none)) → K (a.put o.dst v') w') : o.wp P a w K Q := by
  obtain ⟨v', w', hrun, h2, h3, h4⟩ := run_append_two (P := P) w base t o.type e i z size bytes ht hi hz hsize hby hzs hsz v n xs hown ad m c news hl hnews h1 hm h63 hbytes hbase
  unfold Oper.wp execOp
  simp only [ho, resolve, invoke, builtin, Sem.run_bind, Sem.run_pure, Result.andThen_ok, List.map_toArray, List.map_cons, List.map_nil, hs, hx, hrun]
  exact h v' w' h2 h3 h4
theorem wpList_append_two {ops : Array Oper} {rest : List Oper} {o : Oper} {a : Act} {Q : Exit → Act → World → Prop} (hgd : o.guard = none) (s x : Operand) (t : TypeId)
    (ho : o.op = .call { callee := .builtin .append, args := #[s, x], argTypes := #[t, t] })
    (base : Nat) (e : TypeId) (i : TypeInfo) (z : Value) (size bytes : Nat) (ht : P.underlying t = some (.slice e)) (hi : P.info? e = some i) (hz : i.zero = some z)
    (hsize : i.size = size) (hby : i.bytes = bytes) (hzs : z.cells.size = size) (hsz : 0 < size)
    (v : Value) (n : Nat) (xs : List Value) (hs : a.eval s = v) (hown : w.ownsRow base e size v n xs)
    (ad : Addr) (m c : Nat) (news : List Value) (hx : a.eval x = .slice (some ad) m c) (hl : news.length = m * size) (hnews : ∀ j u, news[j]? = some u → w.cell? (ad.add j) = some u) (h1 : ∀ u ∈ news, u.oneCell' = true)
    (hm : 0 < m) (h63 : n + m ≤ maxLen) (hbytes : (n + m) * bytes ≤ 140737488355328) (hbase : base ≤ w.heap.size)
    (h : ∀ v' w', w'.ownsRow base e size v' (n + m) (xs ++ news) → w.grownBy w' v.ownBlock → ((∃ g cap, v = .slice (some ⟨g, 0, none⟩) n cap ∧ v' = .slice (some ⟨g, 0, none⟩) (n + m) cap) ∨ (v'.ownBlock = some w.heap.size ∧ w.grownBy w' none)) → wpList P ops Q rest (a.put o.dst v') w') : wpList P ops Q (o :: rest) a w :=
  wpList_plain hgd fun _ hK => wp_append_two w s x t ho base e i z size bytes ht hi hz hsize hby hzs hsz v n xs hs hown ad m c news hx hl hnews h1 hm h63 hbytes hbase fun v' w' h2 h3 h4 => hK _ _ (h v' w' h2 h3 h4)
end
end Go.Proofs.YtfckomjbgopmaaaGreatDoor.Words
namespace Go.Proofs.YtfckomjbgopmaaaGreatDoor.Tree
open Go.RowKit Go.WideShapes Go.ChangeShapes Words Owned

/-- A row that holds an element: where it lies and what it holds. -/
theorem own_at_blk {w : World} {B n m : Nat} {e : TypeId} {v : Value} {xs : List Value} (h : w.ownsRow B e m v n xs) (hn : 0 < n) : ∃ g cap cur, v = .slice (some ⟨g, 0, none⟩) n cap ∧ Blk w g e cur ∧ ∀ (i : Nat) (u : Value), xs[i]? = some u → cur[i]? = some u := by
  rcases h.2 with ⟨_, h0⟩ | ⟨g, cap, cur, rfl, hb, hg, hc, hm, hs, ht⟩
  · omega
  · refine ⟨g, cap, cur, rfl, hg, fun i u hu => ?_⟩
    rw [← ht, List.getElem?_take] at hu
    split at hu
    · rw [← Array.getElem?_toList]; exact hu
    · cases hu
theorem own_keep {w w' : World} {B n m : Nat} {e : TypeId} {v : Value} {xs : List Value} (h : w.ownsRow B e m v n xs) (hk : ∀ g, v.ownBlock = some g → w'.heap[g]? = w.heap[g]?) : w'.ownsRow B e m v n xs :=
  ⟨h.1, h.2.elim .inl fun ⟨g, cap, cur, hv, h1, h2, h3⟩ => .inr ⟨g, cap, cur, hv, h1, (hk g (by rw [hv]; rfl)).trans h2, h3⟩⟩
/-- A row and what it has been gone on with. -/
structure Ent (e : TypeId) (N : Nat) (w : World) (v m : Value) (xs ys : List Value) : Prop where
  v : w.ownsRow N e 1 v xs.length xs
  m : w.ownsRow N e 1 m (xs.length + ys.length) (xs ++ ys)
def TouchE (v m : Value) (g : Nat) : Prop := v.ownBlock = some g ∨ m.ownBlock = some g
def upd {α : Type} (f : Nat → α) (i : Nat) (a : α) (j : Nat) : α := if j = i then a else f j
theorem upd_same {α : Type} (f : Nat → α) (i : Nat) (a : α) : upd f i a i = a := if_pos rfl
theorem upd_ne {α : Type} (f : Nat → α) {i j : Nat} (a : α) (h : j ≠ i) : upd f i a j = f j := if_neg h
section
variable {e : TypeId} {N n : Nat} {w w' : World}
theorem Ent.keep {v m : Value} {xs ys : List Value} (h : Ent e N w v m xs ys) (hk : ∀ g, TouchE v m g → w'.heap[g]? = w.heap[g]?) : Ent e N w' v m xs ys :=
  ⟨own_keep h.v fun g hg => hk g (.inl hg), own_keep h.m fun g hg => hk g (.inr hg)⟩
theorem Ent.lt {v m : Value} {xs ys : List Value} (h : Ent e N w v m xs ys) {g : Nat} (hg : TouchE v m g) : N ≤ g ∧ g < w.heap.size := hg.elim (h.v.lt g) (h.m.lt g)
/-- Rows that lie apart. -/
structure Fam (e : TypeId) (N : Nat) (w : World) (n : Nat) (vs ms : Nat → Value) (xs ys : Nat → List Value) : Prop where
  ent : ∀ j, j < n → Ent e N w (vs j) (ms j) (xs j) (ys j)
  apart : ∀ i j g, i < n → j < n → TouchE (vs i) (ms i) g → TouchE (vs j) (ms j) g → i = j
variable {vs ms : Nat → Value} {xs ys : Nat → List Value}
theorem Fam.below (h : Fam e N w n vs ms xs ys) (hb : Below w.heap.size w w') : Fam e N w' n vs ms xs ys := ⟨fun j hj => (h.ent j hj).keep fun g hg => hb.block g ((h.ent j hj).lt hg).2, h.apart⟩
theorem Fam.alloc (h : Fam e N w n vs ms xs ys) (o : Obj) : Fam e N (w.alloc o) n vs ms xs ys := h.below ((Below.refl _ _).alloc (Nat.le_refl _) o)
/-- Blocks of another type are written. -/
theorem Fam.grown {row : Option Nat} (h : Fam e N w n vs ms xs ys) (hg : w.grownBy w' row) (hr : ∀ r, row = some r → ∃ t cs, Blk w r t cs ∧ e ≠ t) : Fam e N w' n vs ms xs ys :=
  ⟨fun j hj => (h.ent j hj).keep fun g hg' => hg.block g ((h.ent j hj).lt hg').2 fun e' => by
    obtain ⟨t, cs, hb, hne⟩ := hr g e'.symm
    rcases hg' with h' | h'
    · exact own_blk_ne (h.ent j hj).v hb hne h'
    · exact own_blk_ne (h.ent j hj).m hb hne h', h.apart⟩
/-- One number of a row that has not been gone on with. -/
theorem Fam.set (h : Fam e N w n vs vs xs fun _ => []) {i g cap k : Nat} (hi : i < n) (hv : vs i = .slice (some ⟨g, 0, none⟩) (xs i).length cap) (hk : k < (xs i).length) (u : Value) : Fam e N (w.setCell ⟨g, k, none⟩ u) n vs vs (upd xs i ((xs i).set k u)) fun _ => [] := by
  have hti : TouchE (vs i) (vs i) g := .inl (by rw [hv]; rfl)
  refine ⟨fun j hj => ?_, h.apart⟩
  by_cases hji : j = i
  · subst hji
    rw [upd_same]
    have ho := (h.ent j hi).v
    have : (w.setCell ⟨g, k, none⟩ u).ownsRow N e 1 (vs j) ((xs j).set k u).length ((xs j).set k u) := by
      rcases ho.2 with ⟨e', h0⟩ | ⟨g', cap', cur, e', hb, hh, hc, hm, hs, ht⟩
      · rw [hv] at e'; cases e'
      · rw [hv] at e'
        cases e'
        refine ⟨by simp, .inr ⟨g, cap, cur.setIfInBounds k u, by rw [List.length_set]; exact hv, hb, Blk.set_ hh k u, by rw [List.length_set]; exact hc, hm, by simpa using hs, ?_⟩⟩
        rw [Array.toList_setIfInBounds, List.length_set, Nat.mul_one, List.take_set]
        rw [Nat.mul_one] at ht
        rw [ht]
    exact ⟨this, by simpa using this⟩
  · rw [upd_ne _ _ hji]
    refine (h.ent j hj).keep fun g' hg' => Below.heap_setCell w ⟨g, k, none⟩ u g' ?_
    intro e'
    have e' : g' = g := e'
    subst e'
    exact hji (h.apart j i _ hj hi hg' hti)
/-- One more number behind a row. -/
theorem Fam.app (h : Fam e N w n vs ms xs ys) {i : Nat} (hi : i < n) {m' u : Value} (ho : w'.ownsRow N e 1 m' ((xs i).length + (ys i).length + 1) ((xs i ++ ys i) ++ [u])) (hg : w.grownBy w' (ms i).ownBlock)
    (h2 : (∃ g cap, ms i = .slice (some ⟨g, 0, none⟩) ((xs i).length + (ys i).length) cap ∧ m' = .slice (some ⟨g, 0, none⟩) ((xs i).length + (ys i).length + 1) cap) ∨ (m'.ownBlock = some w.heap.size ∧ w.grownBy w' none)) : Fam e N w' n vs (upd ms i m') xs (upd ys i (ys i ++ [u])) := by
  have hE := h.ent i hi
  have hkeep : ∀ g, TouchE (vs i) (ms i) g → ((ms i).ownBlock ≠ some g ∨ w.grownBy w' none) → w'.heap[g]? = w.heap[g]? := by
    rintro g hgt (hn | hn)
    · exact hg.block g (hE.lt hgt).2 (fun e' => hn e'.symm)
    · exact hn.block g (hE.lt hgt).2 (by simp)
  refine ⟨fun j hj => ?_, fun a b g ha hb hta htb => ?_⟩
  · by_cases hji : j = i
    · subst hji
      rw [upd_same, upd_same]
      refine ⟨?_, by simpa [Nat.add_assoc] using ho⟩
      rcases h2 with ⟨g, cap, hm1, hm2⟩ | ⟨hm1, hm2⟩
      · by_cases hvg : (vs j).ownBlock = some g
        · -- the row lies in the block that grows
          rcases hE.v.2 with ⟨e1, _⟩ | ⟨g1, c1, cur1, e1, hb1, hh1, hc1, hmx1, hs1, ht1⟩
          · rw [e1] at hvg; cases hvg
          · have : g1 = g := by rw [e1] at hvg; simpa [Value.ownBlock] using hvg
            subst this
            rcases hE.m.2 with ⟨e3, _⟩ | ⟨g3, c3, cur3, e3, hb3, hh3, hc3, hmx3, hs3, ht3⟩
            · rw [hm1] at e3; cases e3
            · rw [hm1] at e3
              cases e3
              rw [hh1] at hh3
              cases hh3
              rcases ho.2 with ⟨e4, _⟩ | ⟨g4, c4, cur4, e4, hb4, hh4, hc4, hmx4, hs4, ht4⟩
              · rw [hm2] at e4; cases e4
              · rw [hm2] at e4
                cases e4
                refine ⟨hE.v.1, .inr ⟨g1, c1, cur4, e1, hb1, hh4, hc1, hmx1, by omega, ?_⟩⟩
                have h5 := congrArg (List.take (xs j).length) ht4
                rw [List.take_take, List.append_assoc, List.take_left] at h5
                rw [Nat.mul_one, Nat.min_eq_left (by omega)] at h5
                rw [Nat.mul_one]; exact h5
        · exact own_keep hE.v fun g' hg' => hkeep g' (.inl hg') (.inl fun e' => hvg (by
            rw [hm1] at e'
            have : g = g' := by simpa [Value.ownBlock] using e'
            rw [this]; exact hg'))
      · exact own_keep hE.v fun g' hg' => hkeep g' (.inl hg') (.inr hm2)
    · rw [upd_ne _ _ hji, upd_ne _ _ hji]
      refine (h.ent j hj).keep fun g hg' => hg.block g ((h.ent j hj).lt hg').2 fun e' => hji (h.apart j i g hj hi hg' (.inr e'.symm))
  · have key : ∀ c, c < n → c ≠ i → TouchE (vs c) (upd ms i m' c) g → TouchE (vs i) (upd ms i m' i) g → False := by
      intro c hc hci hc1 hi1
      rw [upd_ne _ _ hci] at hc1
      rw [upd_same] at hi1
      rcases hi1 with hi1 | hi1
      · exact hci (h.apart c i g hc hi hc1 (.inl hi1))
      · rcases h2 with ⟨g', cap, hm1, hm2⟩ | ⟨hm1, hm2⟩
        · exact hci (h.apart c i g hc hi hc1 (.inr (by rw [hm1]; rw [hm2] at hi1; exact hi1)))
        · have : w.heap.size = g := by rw [hm1] at hi1; simpa using hi1
          have := ((h.ent c hc).lt hc1).2
          omega
    by_cases ha' : a = i
    · by_cases hb' : b = i
      · rw [ha', hb']
      · subst ha'; exact (key b hb hb' htb hta).elim
    · by_cases hb' : b = i
      · subst hb'; exact (key a ha ha' hta htb).elim
      · rw [upd_ne _ _ ha'] at hta
        rw [upd_ne _ _ hb'] at htb
        exact h.apart a b g ha hb hta htb
end
end Go.Proofs.YtfckomjbgopmaaaGreatDoor.Tree
