/- The walk of QueryOwn. Written by gen_qown.py. -/
import Derived.Test.YtinmiekbhoemjaaDoorPack7
import Derived.Test.YtinmiekbhoemjaaDoorPack49
import Derived.Test.YtinmiekbhoemjaaDoorPack4
import Derived.Test.YtinmiekbhoemjaaDoorPack14
import Derived.Test.YtinmiekbhoemjaaDoorQueryReadWalk
import Derived.Deep.RegionHeld3
set_option linter.unusedVariables false

namespace Go.Proofs.YtinmiekbhoemjaaDoor.Words
open Go.RowKit Go.WideShapes Go.ChangeShapes
section
variable {P : Program} (w : World)
/-- append onto a row of the call's own: in its block, or in a new one, and then nothing else changes. -/
theorem run_append_two (base : Nat) (t ty e : TypeId) (i : TypeInfo) (z : Value) (size bytes : Nat) (ht : P.underlying t = some (.slice e)) (hi : P.info? e = some i) (hz : i.zero = some z)
    (hsize : i.size = size) (hby : i.bytes = bytes) (hzs : z.cells.size = size) (hsz : 0 < size)
    (v : Value) (n : Nat) (xs : List Value) (hown : w.ownsRow base e size v n xs)
    (ad : Addr) (m c : Nat) (news : List Value) (hl : news.length = m * size) (hnews : ∀ j u, news[j]? = some u → w.cell? (ad.add j) = some u) (h1 : ∀ u ∈ news, u.oneCell' = true)
    (hm : 0 < m) (h63 : n + m ≤ maxLen) (hbytes : (n + m) * bytes ≤ 140737488355328) (hbase : base ≤ w.heap.size) :
    ∃ v' w', (Builtin.append_ #[t, t] ty #[v, .slice (some ad) m c]).run P w = .ok v' w' ∧ w'.ownsRow base e size v' (n + m) (xs ++ news) ∧ w.grownBy w' v.ownBlock ∧
      ((∃ g cap, v = .slice (some ⟨g, 0, none⟩) n cap ∧ v' = .slice (some ⟨g, 0, none⟩) (n + m) cap) ∨ (v'.ownBlock = some w.heap.size ∧ w.grownBy w' none)) := by
  obtain ⟨v', w', hr, h2, h3, _, h5⟩ := run_append_own_at (P := P) w base t ty e i z size bytes ht hi hz hsize hby hzs hsz v n xs hown ad m c news hl hnews h1 h63 hbytes hbase
  refine ⟨v', w', hr, h2, h3, ?_⟩
  subst hsize hby
  rcases hown.2 with ⟨rfl, rfl⟩ | ⟨g, cap, cur, rfl, hbg, hg, hnc, hcm, hcs, htake⟩
  · refine .inr ⟨?_, h3⟩
    obtain ⟨g, cap, rfl, _, _⟩ := h2.form (by omega)
    rcases h5 with h5 | h5
    · cases h5
    · exact h5
  · by_cases hroom : n + m ≤ cap
    · have hq := run_append_room (P := P) w t ty e i ht hi g n cap cur hg ad m c news hl hnews h1 hroom (by rw [hl, hcs, ← Nat.add_mul]; exact Nat.mul_le_mul_right _ hroom)
      rw [hq] at hr
      injection hr with hr1 hr2
      exact .inl ⟨g, cap, rfl, hr1.symm⟩
    · have hsmall : n + m ≤ 9223372036854775807 := by simp only [maxLen] at h63; omega
      have hq := run_append_grow (P := P) w t ty e i z ht hi hz ⟨g, 0, none⟩ n cap xs hown.1 (hown.cells (g := g) rfl) ad m c news hl hnews (by omega) (by omega) (growslice_fits (by omega) hbytes)
      rw [hq] at hr
      injection hr with hr1 hr2
      subst hr1 hr2
      exact .inr ⟨rfl, rfl, rfl, rfl, by simp, fun k hk _ => Below.heap_alloc w.drew _ k hk⟩

theorem wp_append_two {o : Oper} {a : Act} {K : Act → World → Prop} {Q : Exit → Act → World → Prop} (s x : Operand) (t : TypeId)
    (ho : o.op = .call { callee := .builtin .append, args := #[s, x], argTypes := #[t, t] })
    (base : Nat) (e : TypeId) (i : TypeInfo) (z : Value) (size bytes : Nat) (ht : P.underlying t = some (.slice e)) (hi : P.info? e = some i) (hz : i.zero = some z)
    (hsize : i.size = size) (hby : i.bytes = bytes) (hzs : z.cells.size = size) (hsz : 0 < size)
    (v : Value) (n : Nat) (xs : List Value) (hs : a.eval s = v) (hown : w.ownsRow base e size v n xs)
    (ad : Addr) (m c : Nat) (news : List Value) (hx : a.eval x = .slice (some ad) m c) (hl : news.length = m * size) (hnews : ∀ j u, news[j]? = some u → w.cell? (ad.add j) = some u) (h1 : ∀ u ∈ news, u.oneCell' = true)
    (hm : 0 < m) (h63 : n + m ≤ maxLen) (hbytes : (n + m) * bytes ≤ 140737488355328) (hbase : base ≤ w.heap.size)
    (h : ∀ v' w', w'.ownsRow base e size v' (n + m) (xs ++ news) → w.grownBy w' v.ownBlock → ((∃ g cap, v = .slice (some ⟨g, 0, none⟩) n cap ∧ v' = .slice (some ⟨g, 0, none⟩) (n + m) cap) ∨ (v'.ownBlock = some w.heap.size ∧ w.grownBy w' none)) → K (a.put o.dst v') w') : o.wp P a w K Q := by
  obtain ⟨v', w', hrun, h2, h3, h4⟩ := run_append_two (P := P) w base t o.type e i z size bytes ht hi hz hsize hby hzs hsz v n xs hown ad m c news hl hnews h1 hm h63 hbytes hbase
  unfold Oper.wp execOp
  simp only [ho, resolve, invoke, builtin, Sem.run_bind, Sem.run_pure, Result.andThen_ok, List.map_toArray, List.map_cons, List.map_nil, hs, hx, hrun]
  exact h v' w' h2 h3 h4
theorem wpList_append_two {ops : Array Oper} {rest : List Oper} {o : Oper} {a : Act} {Q : Exit → Act → World → Prop} (hgd : o.guard = none) (s x : Operand) (t : TypeId)
    (ho : o.op = .call { callee := .builtin .append, args := #[s, x], argTypes := #[t, t] })
    (base : Nat) (e : TypeId) (i : TypeInfo) (z : Value) (size bytes : Nat) (ht : P.underlying t = some (.slice e)) (hi : P.info? e = some i) (hz : i.zero = some z)
    (hsize : i.size = size) (hby : i.bytes = bytes) (hzs : z.cells.size = size) (hsz : 0 < size)
    (v : Value) (n : Nat) (xs : List Value) (hs : a.eval s = v) (hown : w.ownsRow base e size v n xs)
    (ad : Addr) (m c : Nat) (news : List Value) (hx : a.eval x = .slice (some ad) m c) (hl : news.length = m * size) (hnews : ∀ j u, news[j]? = some u → w.cell? (ad.add j) = some u) (h1 : ∀ u ∈ news, u.oneCell' = true)
    (hm : 0 < m) (h63 : n + m ≤ maxLen) (hbytes : (n + m) * bytes ≤ 140737488355328) (hbase : base ≤ w.heap.size)
    (h : ∀ v' w', w'.ownsRow base e size v' (n + m) (xs ++ news) → w.grownBy w' v.ownBlock → ((∃ g cap, v = .slice (some ⟨g, 0, none⟩) n cap ∧ v' = .slice (some ⟨g, 0, none⟩) (n + m) cap) ∨ (v'.ownBlock = some w.heap.size ∧ w.grownBy w' none)) → wpList P ops Q rest (a.put o.dst v') w') : wpList P ops Q (o :: rest) a w :=
  wpList_plain hgd fun _ hK => wp_append_two w s x t ho base e i z size bytes ht hi hz hsize hby hzs hsz v n xs hs hown ad m c news hx hl hnews h1 hm h63 hbytes hbase fun v' w' h2 h3 h4 => hK _ _ (h v' w' h2 h3 h4)
end
end Go.Proofs.YtinmiekbhoemjaaDoor.Words
namespace Go.Proofs.YtinmiekbhoemjaaDoor.Tree
open Go.RowKit Go.WideShapes Go.ChangeShapes Words Owned

/-- A row that holds an element: where it lies and what it holds. -/
theorem own_at_blk {w : World} {B n m : Nat} {e : TypeId} {v : Value} {xs : List Value} (h : w.ownsRow B e m v n xs) (hn : 0 < n) : ∃ g cap cur, v = .slice (some ⟨g, 0, none⟩) n cap ∧ Blk w g e cur ∧ ∀ (i : Nat) (u : Value), xs[i]? = some u → cur[i]? = some u := by
  rcases h.2 with ⟨_, h0⟩ | ⟨g, cap, cur, rfl, hb, hg, hc, hm, hs, ht⟩
  · omega
  · refine ⟨g, cap, cur, rfl, hg, fun i u hu => ?_⟩
    rw [← ht, List.getElem?_take] at hu
    split at hu
    · rw [← Array.getElem?_toList]; exact hu
    · cases hu
theorem own_keep {w w' : World} {B n m : Nat} {e : TypeId} {v : Value} {xs : List Value} (h : w.ownsRow B e m v n xs) (hk : ∀ g, v.ownBlock = some g → w'.heap[g]? = w.heap[g]?) : w'.ownsRow B e m v n xs :=
  ⟨h.1, h.2.elim .inl fun ⟨g, cap, cur, hv, h1, h2, h3⟩ => .inr ⟨g, cap, cur, hv, h1, (hk g (by rw [hv]; rfl)).trans h2, h3⟩⟩
/-- A row and what it has been gone on with. -/
structure Ent (e : TypeId) (N : Nat) (w : World) (v m : Value) (xs ys : List Value) : Prop where
  v : w.ownsRow N e 1 v xs.length xs
  m : w.ownsRow N e 1 m (xs.length + ys.length) (xs ++ ys)
def TouchE (v m : Value) (g : Nat) : Prop := v.ownBlock = some g ∨ m.ownBlock = some g
def upd {α : Type} (f : Nat → α) (i : Nat) (a : α) (j : Nat) : α := if j = i then a else f j
theorem upd_same {α : Type} (f : Nat → α) (i : Nat) (a : α) : upd f i a i = a := if_pos rfl
theorem upd_ne {α : Type} (f : Nat → α) {i j : Nat} (a : α) (h : j ≠ i) : upd f i a j = f j := if_neg h
section
variable {e : TypeId} {N n : Nat} {w w' : World}
theorem Ent.keep {v m : Value} {xs ys : List Value} (h : Ent e N w v m xs ys) (hk : ∀ g, TouchE v m g → w'.heap[g]? = w.heap[g]?) : Ent e N w' v m xs ys :=
  ⟨own_keep h.v fun g hg => hk g (.inl hg), own_keep h.m fun g hg => hk g (.inr hg)⟩
theorem Ent.lt {v m : Value} {xs ys : List Value} (h : Ent e N w v m xs ys) {g : Nat} (hg : TouchE v m g) : N ≤ g ∧ g < w.heap.size := hg.elim (h.v.lt g) (h.m.lt g)
/-- Rows that lie apart. -/
structure Fam (e : TypeId) (N : Nat) (w : World) (n : Nat) (vs ms : Nat → Value) (xs ys : Nat → List Value) : Prop where
  ent : ∀ j, j < n → Ent e N w (vs j) (ms j) (xs j) (ys j)
  apart : ∀ i j g, i < n → j < n → TouchE (vs i) (ms i) g → TouchE (vs j) (ms j) g → i = j
variable {vs ms : Nat → Value} {xs ys : Nat → List Value}
theorem Fam.below (h : Fam e N w n vs ms xs ys) (hb : Below w.heap.size w w') : Fam e N w' n vs ms xs ys := ⟨fun j hj => (h.ent j hj).keep fun g hg => hb.block g ((h.ent j hj).lt hg).2, h.apart⟩
theorem Fam.alloc (h : Fam e N w n vs ms xs ys) (o : Obj) : Fam e N (w.alloc o) n vs ms xs ys := h.below ((Below.refl _ _).alloc (Nat.le_refl _) o)
/-- Blocks of another type are written. -/
theorem Fam.grown {row : Option Nat} (h : Fam e N w n vs ms xs ys) (hg : w.grownBy w' row) (hr : ∀ r, row = some r → ∃ t cs, Blk w r t cs ∧ e ≠ t) : Fam e N w' n vs ms xs ys :=
  ⟨fun j hj => (h.ent j hj).keep fun g hg' => hg.block g ((h.ent j hj).lt hg').2 fun e' => by
    obtain ⟨t, cs, hb, hne⟩ := hr g e'.symm
    rcases hg' with h' | h'
    · exact own_blk_ne (h.ent j hj).v hb hne h'
    · exact own_blk_ne (h.ent j hj).m hb hne h', h.apart⟩
/-- One number of a row that has not been gone on with. -/
theorem Fam.set (h : Fam e N w n vs vs xs fun _ => []) {i g cap k : Nat} (hi : i < n) (hv : vs i = .slice (some ⟨g, 0, none⟩) (xs i).length cap) (hk : k < (xs i).length) (u : Value) : Fam e N (w.setCell ⟨g, k, none⟩ u) n vs vs (upd xs i ((xs i).set k u)) fun _ => [] := by
  have hti : TouchE (vs i) (vs i) g := .inl (by rw [hv]; rfl)
  refine ⟨fun j hj => ?_, h.apart⟩
  by_cases hji : j = i
  · subst hji
    rw [upd_same]
    have ho := (h.ent j hi).v
    have : (w.setCell ⟨g, k, none⟩ u).ownsRow N e 1 (vs j) ((xs j).set k u).length ((xs j).set k u) := by
      rcases ho.2 with ⟨e', h0⟩ | ⟨g', cap', cur, e', hb, hh, hc, hm, hs, ht⟩
      · rw [hv] at e'; cases e'
      · rw [hv] at e'
        cases e'
        refine ⟨by simp, .inr ⟨g, cap, cur.setIfInBounds k u, by rw [List.length_set]; exact hv, hb, Blk.set_ hh k u, by rw [List.length_set]; exact hc, hm, by simpa using hs, ?_⟩⟩
        rw [Array.toList_setIfInBounds, List.length_set, Nat.mul_one, List.take_set]
        rw [Nat.mul_one] at ht
        rw [ht]
    exact ⟨this, by simpa using this⟩
  · rw [upd_ne _ _ hji]
    refine (h.ent j hj).keep fun g' hg' => Below.heap_setCell w ⟨g, k, none⟩ u g' ?_
    intro e'
    have e' : g' = g := e'
    subst e'
    exact hji (h.apart j i _ hj hi hg' hti)
/-- One more number behind a row. -/
theorem Fam.app (h : Fam e N w n vs ms xs ys) {i : Nat} (hi : i < n) {m' u : Value} (ho : w'.ownsRow N e 1 m' ((xs i).length + (ys i).length + 1) ((xs i ++ ys i) ++ [u])) (hg : w.grownBy w' (ms i).ownBlock)
    (h2 : (∃ g cap, ms i = .slice (some ⟨g, 0, none⟩) ((xs i).length + (ys i).length) cap ∧ m' = .slice (some ⟨g, 0, none⟩) ((xs i).length + (ys i).length + 1) cap) ∨ (m'.ownBlock = some w.heap.size ∧ w.grownBy w' none)) : Fam e N w' n vs (upd ms i m') xs (upd ys i (ys i ++ [u])) := by
  have hE := h.ent i hi
  have hkeep : ∀ g, TouchE (vs i) (ms i) g → ((ms i).ownBlock ≠ some g ∨ w.grownBy w' none) → w'.heap[g]? = w.heap[g]? := by
    rintro g hgt (hn | hn)
    · exact hg.block g (hE.lt hgt).2 (fun e' => hn e'.symm)
    · exact hn.block g (hE.lt hgt).2 (by simp)
  refine ⟨fun j hj => ?_, fun a b g ha hb hta htb => ?_⟩
  · by_cases hji : j = i
    · subst hji
      rw [upd_same, upd_same]
      refine ⟨?_, by simpa [Nat.add_assoc] using ho⟩
      rcases h2 with ⟨g, cap, hm1, hm2⟩ | ⟨hm1, hm2⟩
      · by_cases hvg : (vs j).ownBlock = some g
        · -- the row lies in the block that grows
          rcases hE.v.2 with ⟨e1, _⟩ | ⟨g1, c1, cur1, e1, hb1, hh1, hc1, hmx1, hs1, ht1⟩
          · rw [e1] at hvg; cases hvg
          · have : g1 = g := by rw [e1] at hvg; simpa [Value.ownBlock] using hvg
            subst this
            rcases hE.m.2 with ⟨e3, _⟩ | ⟨g3, c3, cur3, e3, hb3, hh3, hc3, hmx3, hs3, ht3⟩
            · rw [hm1] at e3; cases e3
            · rw [hm1] at e3
              cases e3
              rw [hh1] at hh3
              cases hh3
              rcases ho.2 with ⟨e4, _⟩ | ⟨g4, c4, cur4, e4, hb4, hh4, hc4, hmx4, hs4, ht4⟩
              · rw [hm2] at e4; cases e4
              · rw [hm2] at e4
                cases e4
                refine ⟨hE.v.1, .inr ⟨g1, c1, cur4, e1, hb1, hh4, hc1, hmx1, by omega, ?_⟩⟩
                have h5 := congrArg (List.take (xs j).length) ht4
                rw [List.take_take, List.append_assoc, List.take_left] at h5
                rw [Nat.mul_one, Nat.min_eq_left (by omega)] at h5
                rw [Nat.mul_one]; exact h5
        · exact own_keep hE.v fun g' hg' => hkeep g' (.inl hg') (.inl fun e' => hvg (by
            rw [hm1] at e'
            have : g = g' := by simpa [Value.ownBlock] using e'
            rw [this]; exact hg'))
      · exact own_keep hE.v fun g' hg' => hkeep g' (.inl hg') (.inr hm2)
    · rw [upd_ne _ _ hji, upd_ne _ _ hji]
      refine (h.ent j hj).keep fun g hg' => hg.block g ((h.ent j hj).lt hg').2 fun e' => hji (h.apart j i g hj hi hg' (.inr e'.symm))
  · have key : ∀ c, c < n → c ≠ i → TouchE (vs c) (upd ms i m' c) g → TouchE (vs i) (upd ms i m' i) g → False := by
      intro c hc hci hc1 hi1
      rw [upd_ne _ _ hci] at hc1
      rw [upd_same] at hi1
      rcases hi1 with hi1 | hi1
      · exact hci (h.apart c i g hc hi hc1 (.inl hi1))
      · rcases h2 with ⟨g', cap, hm1, hm2⟩ | ⟨hm1, hm2⟩
        · exact hci (h.apart c i g hc hi hc1 (.inr (by rw [hm1]; rw [hm2] at hi1; exact hi1)))
        · have : w.heap.size = g := by rw [hm1] at hi1; simpa using hi1
          have := ((h.ent c hc).lt hc1).2
          omega
    by_cases ha' : a = i
    · by_cases hb' : b = i
      · rw [ha', hb']
      · subst ha'; exact (key b hb hb' htb hta).elim
    · by_cases hb' : b = i
      · subst hb'; exact (key a ha ha' hta htb).elim
      · rw [upd_ne _ _ ha'] at hta
        rw [upd_ne _ _ hb'] at htb
        exact h.apart a b g ha hb hta htb
end
end Go.Proofs.YtinmiekbhoemjaaDoor.Tree


namespace Go.Proofs.YtinmiekbhoemjaaDoor.Qry
open Go.RowKit Words Tree Kit Owned

def mkA (j q : Nat) : Value := .int .i64 (1000 * (j : Int) + (q : Int))
def mkB (j q : Nat) : Value := .int .i64 (500000 + 1000 * (j : Int) + (q : Int))
/-- The blocks of the rows. -/
def InRows (n : Nat) (vs : Nat → Value) (g : Nat) : Prop := ∃ j, j < n ∧ (vs j).ownBlock = some g
/-- What holds while the rows are written over. -/
structure Ap1 (N n : Nat) (vs : Nat → Value) (L : Nat → Nat) (w : World) (i k : Nat) (wr : World) : Prop where
  out : ∃ xs, Fam 2 N wr n vs vs xs (fun _ => []) ∧ (∀ j, j < n → (xs j).length = L j) ∧ ∀ j q, j < n → (j < i ∨ (j = i ∧ q < k)) → q < L j → (xs j)[q]? = some (mkA j q)
  but : But (InRows n vs) w wr
theorem Ap1.next {N n : Nat} {vs : Nat → Value} {L : Nat → Nat} {w wr : World} {i k : Nat} (h : Ap1 N n vs L w i k wr) (hk : L i ≤ k) : Ap1 N n vs L w (i + 1) 0 wr := by
  obtain ⟨xs, h1, h2, h3⟩ := h.out
  exact ⟨⟨xs, h1, h2, fun j q hj hq hl => h3 j q hj (by
    rcases hq with hq | ⟨_, hq⟩
    · rcases Nat.lt_or_ge j i with h' | h'
      · exact .inl h'
      · obtain rfl : j = i := by omega
        exact .inr ⟨rfl, by omega⟩
    · omega) hl⟩, h.but⟩
theorem Ap1.step {N n : Nat} {vs : Nat → Value} {L : Nat → Nat} {w wr : World} {i k g cap : Nat} (h : Ap1 N n vs L w i k wr) (hi : i < n) (hk : k < L i) (hv : vs i = .slice (some ⟨g, 0, none⟩) (L i) cap) : Ap1 N n vs L w i (k + 1) (wr.setCell ⟨g, k, none⟩ (mkA i k)) := by
  obtain ⟨xs, h1, h2, h3⟩ := h.out
  refine ⟨⟨_, h1.set hi (by rw [h2 i hi]; exact hv) (by rw [h2 i hi]; exact hk) (mkA i k), fun j hj => ?_, fun j q hj hq hl => ?_⟩, h.but.set (p := ⟨g, k, none⟩) (.inl ⟨i, hi, by rw [hv]; rfl⟩) _⟩
  · by_cases hji : j = i
    · subst hji; rw [upd_same, List.length_set]; exact h2 j hj
    · rw [upd_ne _ _ hji]; exact h2 j hj
  · by_cases hji : j = i
    · subst hji
      rw [upd_same, List.getElem?_set]
      split
      · rename_i e; subst e; rw [if_pos (by rw [h2 j hj]; exact hl)]
      · exact h3 j q hj (.inr ⟨rfl, by omega⟩) hl
    · rw [upd_ne _ _ hji]
      exact h3 j q hj (.inl (by omega)) hl
theorem Ap1.cell {N n : Nat} {vs : Nat → Value} {L : Nat → Nat} {w wr : World} {i k : Nat} (h : Ap1 N n vs L w i k wr) {j q : Nat} (hj : j < n) (hq : q < L j) : ∃ g cap, vs j = .slice (some ⟨g, 0, none⟩) (L j) cap ∧ (∃ u, wr.cell? ⟨g, q, none⟩ = some u) ∧ wr.frozen? ⟨g, q, none⟩ = false := by
  obtain ⟨xs, h1, h2, h3⟩ := h.out
  have ho := (h1.ent j hj).v
  rw [h2 j hj] at ho
  obtain ⟨g, cap, cur, hv, hb, hx⟩ := own_at_blk ho (by omega)
  have hxl : q < (xs j).length := by rw [h2 j hj]; exact hq
  exact ⟨g, cap, hv, ⟨_, (hb.cell q).trans (hx q _ (List.getElem?_eq_getElem hxl))⟩, hb.frozen q⟩

theorem infoN : (Tryd.prog.info? 2).map (fun i => (i.zero, i.size, i.bytes)) = some (some (.int .i64 0), 1, 8) := by kernel_rfl
theorem infoS : (Tryd.prog.info? 22).map (fun i => (i.zero, i.size, i.bytes)) = some (some (.slice none 0 0), 1, 24) := by kernel_rfl
/-- What is put behind a row. -/
def extA (j k : Nat) : List Value := (List.range k).map (mkB j)
theorem extA_len (j k : Nat) : (extA j k).length = k := by simp [extA]
theorem extA_succ (j k : Nat) : extA j (k + 1) = extA j k ++ [mkB j k] := by simp [extA, List.range_succ]
/-- What holds while the rows are gone on with. -/
structure Ap2 (N n : Nat) (vs : Nat → Value) (X : Nat → List Value) (w : World) (i k : Nat) (ms : Nat → Value) (ys : Nat → List Value) (mo : Value) (wr : World) : Prop where
  fam : Fam 2 N wr n vs ms X ys
  done : ∀ j, j < i → ys j = extA j 30
  now : i < n → ys i = extA i k
  later : ∀ j, (i < j ∨ (j = i ∧ k = 0)) → j < n → ms j = vs j ∧ ys j = []
  more : wr.ownsRow w.heap.size 22 1 mo i ((List.range i).map ms)
  news : ∀ j, j < n → ∀ g, (ms j).ownBlock = some g → InRows n vs g ∨ w.heap.size ≤ g
  but : But (InRows n vs) w wr
theorem range_upd (ms : Nat → Value) (i : Nat) (m : Value) : (List.range i).map (upd ms i m) = (List.range i).map ms :=
  List.map_congr_left fun j hj => upd_ne _ _ (by have := List.mem_range.1 hj; omega)
section
variable {N n : Nat} {vs : Nat → Value} {X : Nat → List Value} {w wr w' : World} {i k : Nat} {ms : Nat → Value} {ys : Nat → List Value} {mo : Value}
theorem Ap2.alloc (h : Ap2 N n vs X w i k ms ys mo wr) (o : Obj) : Ap2 N n vs X w i k ms ys mo (wr.alloc o) :=
  ⟨h.fam.alloc o, h.done, h.now, h.later, h.more.alloc o, h.news, h.but.alloc o⟩
theorem Ap2.own (h : Ap2 N n vs X w i k ms ys mo wr) (hi : i < n) : wr.ownsRow N 2 1 (ms i) ((X i).length + k) (X i ++ extA i k) := by
  have := (h.fam.ent i hi).m
  rw [h.now hi, extA_len] at this
  exact this
theorem Ap2.app (h : Ap2 N n vs X w i k ms ys mo wr) (hi : i < n) {m' : Value} (ho : w'.ownsRow N 2 1 m' ((X i).length + k + 1) ((X i ++ extA i k) ++ [mkB i k])) (hg : wr.grownBy w' (ms i).ownBlock)
    (h2 : (∃ g cap, ms i = .slice (some ⟨g, 0, none⟩) ((X i).length + k) cap ∧ m' = .slice (some ⟨g, 0, none⟩) ((X i).length + k + 1) cap) ∨ (m'.ownBlock = some wr.heap.size ∧ wr.grownBy w' none)) : Ap2 N n vs X w i (k + 1) (upd ms i m') (upd ys i (extA i (k + 1))) mo w' := by
  have hy := h.now hi
  have hyl : (ys i).length = k := by rw [hy, extA_len]
  have hmi := (h.fam.ent i hi).m
  refine ⟨?_, fun j hj => by rw [upd_ne _ _ (by omega)]; exact h.done j hj, fun _ => upd_same _ _ _, fun j hj hjn => by rw [upd_ne _ _ (by omega), upd_ne _ _ (by omega)]; exact h.later j (.inl (by omega)) hjn, ?_, fun j hj g hgj => ?_, ?_⟩
  · have := h.fam.app (w' := w') hi (m' := m') (u := mkB i k) (by rw [hy, extA_len]; exact ho) hg (by rw [hyl]; exact h2)
    rw [hy, ← extA_succ] at this
    exact this
  · rw [range_upd]
    exact own_keep h.more fun g hgm => hg.block g (h.more.lt g hgm).2 fun e => by
      rcases own_own_ne h.more hmi (by decide) with h' | h'
      · rw [h'] at hgm; cases hgm
      · exact h' (hgm.trans e)
  · by_cases hji : j = i
    · subst hji
      rw [upd_same] at hgj
      rcases h2 with ⟨g', cap, h3, h4⟩ | ⟨h3, _⟩
      · exact h.news j hj g (by rw [h3]; rw [h4] at hgj; exact hgj)
      · rw [h3] at hgj
        cases hgj
        exact .inr h.but.size
    · rw [upd_ne _ _ hji] at hgj
      exact h.news j hj g hgj
  · exact h.but.more (But.grown (N := fun g => (ms i).ownBlock = some g) hg fun r hr => hr) fun g hg' => h.news i hi g hg'
theorem Ap2.next (h : Ap2 N n vs X w i 30 ms ys mo wr) (hi : i < n) {mo' : Value} (ho : w'.ownsRow w.heap.size 22 1 mo' (i + 1) ((List.range i).map ms ++ [ms i])) (hg : wr.grownBy w' mo.ownBlock) : Ap2 N n vs X w (i + 1) 0 ms ys mo' w' := by
  refine ⟨h.fam.grown hg fun r hr => ?_, fun j hj => ?_, fun hi' => ?_, fun j hj hjn => h.later j (.inl (by omega)) hjn, by rw [List.range_succ, List.map_append]; exact ho, h.news, ?_⟩
  · rcases h.more.2 with ⟨e, _⟩ | ⟨g, cap, cur, e, _, hh, _⟩
    · rw [e] at hr; cases hr
    · rw [e] at hr
      have : g = r := by simpa [Value.ownBlock] using hr
      subst this
      exact ⟨_, _, hh, by decide⟩
  · rcases Nat.lt_or_ge j i with h' | h'
    · exact h.done j h'
    · obtain rfl : j = i := by omega
      exact h.now hi
  · rw [(h.later (i + 1) (.inl (by omega)) hi').2]; rfl
  · exact h.but.more (But.grown (N := fun g => mo.ownBlock = some g) hg fun r hr => hr) fun g hg' => .inr (h.more.lt g hg').1
end
theorem Ap2.start {N n : Nat} {vs : Nat → Value} {L : Nat → Nat} {w wr : World} (h : Ap1 N n vs L w n 0 wr) : ∃ X, (∀ j, j < n → (X j).length = L j) ∧ (∀ j q, j < n → q < L j → (X j)[q]? = some (mkA j q)) ∧ Ap2 N n vs X w 0 0 vs (fun _ => []) (.slice none 0 0) wr := by
  obtain ⟨xs, h1, h2, h3⟩ := h.out
  exact ⟨xs, h2, fun j q hj hq => h3 j q hj (.inl hj) hq, h1, fun j hj => by omega, fun _ => rfl, fun j _ _ => ⟨rfl, rfl⟩, World.ownsRow_nil _ _ _ _, fun j hj g hg => .inl ⟨j, hj, hg⟩, h.but⟩
/-- What is read at the end. -/
theorem Ap2.read {N n : Nat} {vs : Nat → Value} {X : Nat → List Value} {w wr : World} {ms : Nat → Value} {ys : Nat → List Value} {mo : Value} (h : Ap2 N n vs X w n 0 ms ys mo wr) {j q : Nat} (hj : j < n) : ∃ g cap, ms j = .slice (some ⟨g, 0, none⟩) ((X j).length + 30) cap ∧ ∀ q u, (X j ++ extA j 30)[q]? = some u → wr.cell? ⟨g, q, none⟩ = some u := by
  have ho := (h.fam.ent j hj).m
  rw [h.done j hj, extA_len] at ho
  obtain ⟨g, cap, cur, hv, hb, hx⟩ := own_at_blk ho (by omega)
  exact ⟨g, cap, hv, fun q u hu => (hb.cell q).trans (hx q u hu)⟩
theorem Ap2.readV {N n : Nat} {vs : Nat → Value} {X : Nat → List Value} {w wr : World} {ms : Nat → Value} {ys : Nat → List Value} {mo : Value} (h : Ap2 N n vs X w n 0 ms ys mo wr) {j q : Nat} (hj : j < n) (hq : q < (X j).length) : ∃ g cap, vs j = .slice (some ⟨g, 0, none⟩) (X j).length cap ∧ ∀ q u, (X j)[q]? = some u → wr.cell? ⟨g, q, none⟩ = some u := by
  obtain ⟨g, cap, cur, hv, hb, hx⟩ := own_at_blk (h.fam.ent j hj).v (by omega)
  exact ⟨g, cap, hv, fun q u hu => (hb.cell q).trans (hx q u hu)⟩

set_option maxRecDepth 100000 in
set_option maxHeartbeats 8000000 in
theorem apart_any (all : Value) (n B N : Nat) (vs : Nat → Value) (xs0 : Nat → List Value) (w : World) (hall : w.ownsRow B 22 1 all n ((List.range n).map vs)) (hf : Fam 2 N w n vs vs xs0 (fun _ => []))
    (hL : ∀ j, j < n → (xs0 j).length ≤ 4294967296) (hn : n ≤ 4294967296) (hN : N ≤ w.heap.size) :
    Calls Tryd.prog 19 #[all] w (fun e w' => e = .returned (.bool true) ∧ But (InRows n vs) w w') := by
  obtain ⟨A, cA, rfl⟩ := own_slice hall
  obtain ⟨L, hLd⟩ : ∃ L : Nat → Nat, L = fun j => (xs0 j).length := ⟨_, rfl⟩
  have HAL := Lib.hid (fun (W : World) (hW : But (InRows n vs) w W) => own_keep hall fun g hg => hW.block g (hall.lt g hg).2 (by
    rintro ⟨j, hj, he⟩
    rcases own_own_ne hall (hf.ent j hj).v (by decide) with h | h
    · rw [h] at hg; cases hg
    · exact h (hg.trans he.symm)))
  have HSL : Hid (∀ j, j < n → ∃ Aj cj, vs j = .slice Aj (L j) cj) := Lib.hid (fun j hj => by
    obtain ⟨a, c, h⟩ := own_slice (hf.ent j hj).v
    exact ⟨a, c, by rw [hLd]; exact h⟩)
  have HL : Hid (∀ j, j < n → L j ≤ 4294967296) := Lib.hid (fun j hj => by rw [hLd]; exact hL j hj)
  have H0 : Hid (Ap1 N n vs L w 0 0 w) := Lib.hid ⟨⟨xs0, hf, fun j _ => by rw [hLd], fun j q _ hq _ => by omega⟩, But.refl _ _⟩
  clear hall hf hL hLd
  go_enter Tryd.func19, Tryd.ntmps19
  go_wp2_with fail
  go_loopw [3] (fun i wr => ∃ a : Nat, a ≤ n ∧ i = .int .i64 a ∧ Hid (Ap1 N n vs L w a 0 wr)) (fun i _ => n - (intOf i).toNat)
  case atStart => exact ⟨0, by omega, rfl, H0⟩
  case round =>
    obtain ⟨a, ha, rfl, HP⟩ := hrel
    by_cases hlt : a < n
    · have hlt2 : (a : Int) < (n : Int) := by omega
      obtain ⟨Aj, cj, hvj⟩ := HSL.out a hlt
      have HVJ := Lib.hid hvj
      have HCC : Hid (∀ W, But (InRows n vs) w W → ∃ ga, A = some ⟨ga, 0, none⟩ ∧ W.cell? ⟨ga, a, none⟩ = some (.slice Aj (L a) cj)) := Lib.hid (fun W hW => by
        obtain ⟨ga, e1, _, _, hc⟩ := own_cell (HAL.out W hW) hlt
        exact ⟨ga, e1, by rw [← hvj]; exact hc a _ (by simp [hlt])⟩)
      have hLa := HL.out a hlt
      clear hvj
      go_wp2_with fail
      go_loopw [4] (fun i wr => ∃ k : Nat, k ≤ L a ∧ i = .int .i64 k ∧ Hid (Ap1 N n vs L w a k wr)) (fun i _ => L a - (intOf i).toNat)
      case atStart => exact ⟨0, by omega, rfl, HP⟩
      case round =>
        obtain ⟨k, hk, rfl, HQ⟩ := hrel
        obtain ⟨ga, rfl, hca⟩ := HCC.out _ HQ.out.but
        by_cases hlk : k < L a
        · have hlk2 : (k : Int) < (L a : Int) := by omega
          obtain ⟨g, cap, hvg, ⟨u, hcu⟩, hfu⟩ := HQ.out.cell hlt hlk
          have hh := HVJ.out.symm.trans hvg
          simp only [Value.slice.injEq, true_and] at hh
          obtain ⟨rfl, rfl⟩ := hh
          have HS := Lib.hid (HQ.out.step hlt hlk hvg)
          clear hvg
          have h1 : IntKind.i64.wrap (1000 * (a : Int)) = 1000 * (a : Int) := IntWalk.i64_in _ (by omega)
          have h2 : IntKind.i64.wrap (1000 * (a : Int) + (k : Int)) = 1000 * (a : Int) + (k : Int) := IntWalk.i64_in _ (by omega)
          go_wp2_with fail
          go_roundw
          case rel => exact ⟨k + 1, by omega, by go_num, HS⟩
          case measure => simp [intOf]; omega
        · obtain rfl : k = L a := by omega
          have HS := Lib.hid (HQ.out.next (Nat.le_refl _))
          go_wp2_with fail
          go_roundw
          case rel => exact ⟨a + 1, by omega, by go_num, HS⟩
          case measure => simp [intOf]; omega
    · obtain rfl : n = a := by omega
      obtain ⟨X, hX1, hX2, h20⟩ := Ap2.start HP.out
      have HX1 := Lib.hid hX1; have HX2 := Lib.hid hX2; have H20 := Lib.hid h20
      clear hX1 hX2 h20 HP
      obtain ⟨i0, hi1, hi2, hi3, hi4⟩ := info_parts infoN
      obtain ⟨s0, hs1, hs2, hs3, hs4⟩ := info_parts infoS
      have HI := Lib.hid (And.intro hi1 (And.intro hi2 (And.intro hi3 hi4)))
      have HS := Lib.hid (And.intro hs1 (And.intro hs2 (And.intro hs3 hs4)))
      clear hi1 hi2 hi3 hi4 hs1 hs2 hs3 hs4
      go_wp2_with fail
      go_loopw [5, 6] (fun o i wr => ∃ (b : Nat) (ms : Nat → Value) (ys : Nat → List Value), b ≤ n ∧ i = .int .i64 b ∧ Hid (Ap2 N n vs X w b 0 ms ys o wr)) (fun _ i _ => n - (intOf i).toNat)
      case atStart => exact ⟨0, _, _, by omega, rfl, H20⟩
      case round =>
        obtain ⟨b, ms, ys, hb, rfl, HP⟩ := hrel
        obtain ⟨Ao, co, hao⟩ := own_slice HP.out.more
        subst hao
        by_cases hltb : b < n
        · have hlt2 : (b : Int) < (n : Int) := by omega
          obtain ⟨ga, rfl, hca⟩ : ∃ ga, A = some ⟨ga, 0, none⟩ ∧ wr.cell? ⟨ga, b, none⟩ = some (vs b) := by
            obtain ⟨ga, e1, _, _, hc⟩ := own_cell (HAL.out _ HP.out.but) hltb
            exact ⟨ga, e1, hc b _ (by simp [hltb])⟩
          rw [← (HP.out.later b (.inr ⟨rfl, rfl⟩) hltb).1] at hca
          go_wp2_with fail
          go_loopw [7, 8] (fun l i wr => ∃ (k : Nat) (ms : Nat → Value) (ys : Nat → List Value), k ≤ 30 ∧ i = .int .i64 k ∧ l = ms b ∧ Hid (Ap2 N n vs X w b k ms ys (.slice Ao b co) wr)) (fun _ i _ => 30 - (intOf i).toNat)
          case atStart => exact ⟨0, _, _, by omega, rfl, rfl, HP⟩
          case round =>
            clear hca
            obtain ⟨k, ms, ys, hk, rfl, rfl, HQ⟩ := hrel
            by_cases hlk : k < 30
            · have hlk2 : (k : Int) < 30 := by omega
              have hXl := HX1.out b hltb
              have hLb := HL.out b hltb
              have h1 : IntKind.i64.wrap (1000 * (b : Int)) = 1000 * (b : Int) := IntWalk.i64_in _ (by omega)
              have h2 : IntKind.i64.wrap (500000 + 1000 * (b : Int)) = 500000 + 1000 * (b : Int) := IntWalk.i64_in _ (by omega)
              have h3 : IntKind.i64.wrap (500000 + 1000 * (b : Int) + (k : Int)) = 500000 + 1000 * (b : Int) + (k : Int) := IntWalk.i64_in _ (by omega)
              have hown := (HQ.out.alloc (.cells #[mkB b k] 2)).own hltb
              obtain ⟨hi1, hi2, hi3, hi4⟩ := HI.out
              have hNw : N ≤ wr.heap.size + 1 := by have := HQ.out.but.size; omega
              go_wp2_with (at_builtin; refine wpList_append_two _ rfl (.tmp 52) (.tmp 58) 22 rfl N 2 i0 _ 1 8 Tryd.underlying22 hi1 hi2 hi3 hi4 rfl (by decide) (ms b) _ _ rfl hown ⟨wr.heap.size, 0, none⟩ 1 1 [mkB b k] rfl rfl ?d1 ?d2 (by decide) ?d3 ?d4 ?d5 ?_)
              case d1 => exact World.news_of_block (Blk.new wr _ _)
              case d2 => intro u hu; simp only [List.mem_cons, List.not_mem_nil, or_false] at hu; subst hu; rfl
              case d3 => unfold maxLen; omega
              case d4 => omega
              case d5 => simpa using hNw
              intro m' w' ho hg h2'
              have HN := Lib.hid ((HQ.out.alloc (.cells #[mkB b k] 2)).app hltb (by rw [hXl, List.append_assoc]; exact ho) hg (by rw [hXl]; simpa [mkB] using h2'))
              clear ho hg h2' hown hi1 hi2 hi3 hi4
              go_wp2_with fail
              go_roundw
              case rel => exact ⟨k + 1, _, _, by omega, by go_num, (upd_same _ _ _).symm, HN⟩
              case measure => simp [intOf]; omega
            · have hk30 : k = 30 := by omega
              have hge : ¬ (k : Int) < 30 := by omega
              have HQ : Hid (Ap2 N n vs X w b 30 ms ys (.slice Ao b co) wr) := by rw [← hk30]; exact HQ
              obtain ⟨al, cl, el⟩ := own_slice (HQ.out.own hltb)
              rw [el]
              have hown := (HQ.out.alloc (.cells #[.slice al ((X b).length + 30) cl] 22)).more
              obtain ⟨hi1, hi2, hi3, hi4⟩ := HS.out
              have hbs := HQ.out.but.size
              go_wp2_with (at_builtin; refine wpList_append_two _ rfl (.tmp 60) (.tmp 62) 37 rfl w.heap.size 22 s0 _ 1 24 Tryd.underlying37 hi1 hi2 hi3 hi4 rfl (by decide) _ _ _ rfl hown ⟨wr.heap.size, 0, none⟩ 1 1 [.slice al ((X b).length + 30) cl] rfl rfl ?d1 ?d2 (by decide) ?d3 ?d4 ?d5 ?_)
              case d2 => rfl
              case d3 => unfold maxLen; omega
              case d4 => omega
              case d5 => omega
              intro m' w' ho hg _
              have HN := Lib.hid ((HQ.out.alloc (.cells #[.slice al ((X b).length + 30) cl] 22)).next hltb (by rw [el]; exact ho) hg)
              clear ho hg hown hi1 hi2 hi3 hi4
              go_wp2_with fail
              go_roundw
              case rel => exact ⟨b + 1, _, _, by omega, by go_num, HN⟩
              case measure => simp [intOf]; omega
        · obtain rfl : n = b := by omega
          have H3 := Lib.hid (fun (j : Nat) (hj : j < n) => HP.out.read (q := 0) hj)
          have H4 := Lib.hid (fun (j q : Nat) (hj : j < n) (hq : q < (X j).length) => HP.out.readV hj hq)
          have HMO := Lib.hid HP.out.more
          have HBT := Lib.hid HP.out.but
          clear HP hltb
          go_wp2_with fail
          go_loopw [9] (fun i wq => ∃ b : Nat, b ≤ n ∧ i = .int .i64 b ∧ wq = wr) (fun i _ => n - (intOf i).toNat)
          case atStart => exact ⟨0, by omega, rfl, rfl⟩
          case round =>
            obtain ⟨b, hb, rfl, rfl⟩ := hrel
            by_cases hltb : b < n
            · have hlt2 : (b : Int) < (n : Int) := by omega
              obtain ⟨ga, rfl, hca⟩ : ∃ ga, A = some ⟨ga, 0, none⟩ ∧ wr.cell? ⟨ga, b, none⟩ = some (vs b) := by
                obtain ⟨ga, e1, _, _, hc⟩ := own_cell (HAL.out _ HBT.out) hltb
                exact ⟨ga, e1, hc b _ (by simp [hltb])⟩
              obtain ⟨gm, rfl, hcm⟩ : ∃ gm, Ao = some ⟨gm, 0, none⟩ ∧ wr.cell? ⟨gm, b, none⟩ = some (ms b) := by
                obtain ⟨gm, e1, _, _, hc⟩ := own_cell HMO.out hltb
                exact ⟨gm, e1, hc b _ (by simp [hltb])⟩
              obtain ⟨Aj, cj, hvj⟩ := HSL.out b hltb
              obtain ⟨g3, c3, hm3, hr3⟩ := H3.out b hltb
              have hXl := HX1.out b hltb
              have hLb := HL.out b hltb
              have HV := Lib.hid hvj
              have H3b := Lib.hid hr3
              rw [hvj] at hca
              rw [hm3, hXl] at hcm
              have h1 : IntKind.i64.wrap (1000 * (b : Int)) = 1000 * (b : Int) := IntWalk.i64_in _ (by omega)
              have h2 : IntKind.i64.wrap (500000 + 1000 * (b : Int)) = 500000 + 1000 * (b : Int) := IntWalk.i64_in _ (by omega)
              clear hvj hr3 hm3
              go_wp2_with fail
              go_loopw [11] (fun i wq => ∃ k : Nat, k ≤ L b ∧ i = .int .i64 k ∧ wq = wr) (fun i _ => L b - (intOf i).toNat)
              case atStart => exact ⟨0, by omega, rfl, rfl⟩
              case round =>
                obtain ⟨k, hk, rfl, rfl⟩ := hrel
                by_cases hlk : k < L b
                · have hlk2 : (k : Int) < (L b : Int) := by omega
                  obtain ⟨g4, c4, hv4, hr4⟩ := H4.out b k hltb (by omega)
                  have hh := HV.out.symm.trans hv4
                  simp only [Value.slice.injEq] at hh
                  obtain ⟨rfl, -, rfl⟩ := hh
                  have hd1 := hr4 k _ (HX2.out b k hltb hlk)
                  have hd2 := H3b.out k _ ((List.getElem?_append_left (by omega)).trans (HX2.out b k hltb hlk))
                  have h5 : IntKind.i64.wrap (1000 * (b : Int) + (k : Int)) = 1000 * (b : Int) + (k : Int) := IntWalk.i64_in _ (by omega)
                  unfold mkA at hd1 hd2
                  have hlk3 : (k : Int) < ((L b + 30 : Nat) : Int) := by omega
                  have hlk4 : k < L b + 30 := by omega
                  clear hr4 hv4
                  go_wp2_with fail
                  go_roundw
                  case rel => exact ⟨k + 1, by omega, by go_num, trivial⟩
                  case measure => simp [intOf]; omega
                · obtain rfl : k = L b := by omega
                  go_wp2_with fail
                  go_loopw [12] (fun i wq => ∃ k : Nat, k ≤ 30 ∧ i = .int .i64 k ∧ wq = wr) (fun i _ => 30 - (intOf i).toNat)
                  case atStart => exact ⟨0, by omega, rfl, rfl⟩
                  case round =>
                    obtain ⟨k, hk, rfl, rfl⟩ := hrel
                    by_cases hlk : k < 30
                    · have hlk2 : (k : Int) < 30 := by omega
                      have hd2 := H3b.out (L b + k) (mkB b k) ((List.getElem?_append_right (by omega)).trans (by rw [hXl, Nat.add_sub_cancel_left]; simp [extA, hlk]))
                      have h5 : IntKind.i64.wrap (500000 + 1000 * (b : Int) + (k : Int)) = 500000 + 1000 * (b : Int) + (k : Int) := IntWalk.i64_in _ (by omega)
                      have h6 : IntKind.i64.wrap ((L b : Int) + (k : Int)) = ((L b + k : Nat) : Int) := by rw [IntWalk.i64_in _ (by omega)]; omega
                      have h7 : L b + k < L b + 30 := by omega
                      have h8 : ((L b + k : Nat) : Int) < ((L b + 30 : Nat) : Int) := by omega
                      unfold mkB at hd2
                      go_wp2_with fail
                      go_roundw
                      case rel => exact ⟨k + 1, by omega, by go_num, trivial⟩
                      case measure => simp [intOf]; omega
                    · have hge : ¬ (k : Int) < 30 := by omega
                      go_wp2_with fail
                      go_roundw
                      case rel => exact ⟨b + 1, by omega, by go_num, trivial⟩
                      case measure => simp [intOf]; omega
            · obtain rfl : n = b := by omega
              go_wp2_with fail
              go_ret
              exact ⟨rfl, HBT.out⟩
end Go.Proofs.YtinmiekbhoemjaaDoor.Qry


namespace Go.Proofs.YtinmiekbhoemjaaDoor.Qry
open Go.RowKit Words Tree QryP Kit Sch SchP Owned

theorem OQL.append {w : World} {B : Nat} : ∀ {l1 l2 : List QT} {x1 x2 : List Value} {b1 b2 : List Nat}, OQL w B l1 x1 b1 → OQL w B l2 x2 b2 → OQL w B (l1 ++ l2) (x1 ++ x2) (b1 ++ b2)
  | [], l2, x1, x2, b1, b2, h, h2 => by
    rw [OQL] at h
    obtain ⟨rfl, rfl⟩ := h
    exact h2
  | q :: l1, l2, x1, x2, b1, b2, h, h2 => by
    rw [OQL] at h
    obtain ⟨us, xs', c1, c2, rfl, rfl, h3, h4⟩ := h
    rw [List.cons_append, OQL]
    exact ⟨us, xs' ++ x2, c1, c2 ++ b2, by simp, by simp, h3, OQL.append h4 h2⟩
theorem massL_append : ∀ l1 l2 : List QT, massL (l1 ++ l2) = massL l1 + massL l2
  | [], l2 => by simp [massL]
  | q :: l1, l2 => by rw [List.cons_append, massL, massL, massL_append l1 l2]; omega
theorem mass_ge : ∀ q : QT, 10 ≤ mass q
  | .mk _ _ _ _ _ _ _ _ _ _ => by rw [mass]; omega
theorem massL_len : ∀ l : List QT, l.length * 10 ≤ massL l
  | [] => by simp
  | q :: l => by have := mass_ge q; have := massL_len l; rw [massL, List.length_cons]; omega
/-- The blocks of rows. -/
def rowB (l : List (Value × List Int)) : List Nat := l.flatMap fun p => p.1.ownBlock.toList
theorem rowB_append (a b : List (Value × List Int)) : rowB (a ++ b) = rowB a ++ rowB b := by simp [rowB]
theorem rowB_mem {l : List (Value × List Int)} {g : Nat} : g ∈ rowB l ↔ ∃ p ∈ l, p.1.ownBlock = some g := by
  unfold rowB
  rw [List.mem_flatMap]
  constructor
  · rintro ⟨p, h1, h2⟩; exact ⟨p, h1, mem_ob.1 h2⟩
  · rintro ⟨p, h1, h2⟩; exact ⟨p, h1, mem_ob.2 h2⟩
theorem rowB_apart : ∀ {l : List (Value × List Int)}, (rowB l).Nodup → ∀ (i j g : Nat) (p q : Value × List Int), l[i]? = some p → l[j]? = some q → p.1.ownBlock = some g → q.1.ownBlock = some g → i = j
  | [], _, i, j, g, p, q, h1, _, _, _ => by simp at h1
  | a :: l, hn, i, j, g, p, q, h1, h2, h3, h4 => by
    have e : rowB (a :: l) = a.1.ownBlock.toList ++ rowB l := rfl
    rw [e] at hn
    obtain ⟨n1, n2, n3⟩ := List.nodup_append.1 hn
    cases i with
    | zero =>
      cases j with
      | zero => rfl
      | succ j =>
        simp only [List.getElem?_cons_zero, Option.some.injEq] at h1
        subst h1
        simp only [List.getElem?_cons_succ] at h2
        exact absurd rfl (n3 g (mem_ob.2 h3) g (rowB_mem.2 ⟨q, List.mem_of_getElem? h2, h4⟩))
    | succ i =>
      simp only [List.getElem?_cons_succ] at h1
      cases j with
      | zero =>
        simp only [List.getElem?_cons_zero, Option.some.injEq] at h2
        subst h2
        exact absurd rfl (n3 g (mem_ob.2 h4) g (rowB_mem.2 ⟨p, List.mem_of_getElem? h1, h3⟩))
      | succ j =>
        simp only [List.getElem?_cons_succ] at h2
        rw [rowB_apart n2 i j g p q h1 h2 h3 h4]
/-- The rows that have been gathered and the queries that are still to be visited; w0: the world as the loop began; bsA: the blocks of the whole. -/
structure AF (M N : Nat) (bsA : List Nat) (w w0 wr : World) (i : Nat) (rows : List (Value × List Int)) (pend : List QT) (xp : List Value) (bP : List Nat) : Prop where
  rws : ∀ p ∈ rows, RowI wr N p.1 p.2 ∧ p.2.length ≤ 40960
  oq : OQL wr N pend xp bP
  nd : (rowB rows ++ bP).Nodup
  sub : ∀ g ∈ rowB rows ++ bP, g ∈ bsA
  bel : Below N w wr
  keep : ∀ g, g < M → g ∉ bsA → wr.heap[g]? = w0.heap[g]?
  lt : ∀ g ∈ bsA, N ≤ g ∧ g < M
  sz : M ≤ wr.heap.size
  ms : i * 10 + massL pend ≤ 40960
section
variable {M N : Nat} {bsA bP : List Nat} {w w0 wr w' : World} {i : Nat} {rows : List (Value × List Int)} {pend : List QT} {xp : List Value}
theorem AF.next (h : AF M N bsA w w0 wr i rows pend xp bP) (hb : Below M wr w') (hN : N ≤ M) : AF M N bsA w w0 w' i rows pend xp bP := by
  have hlt : ∀ g ∈ rowB rows ++ bP, g < M := fun g hg => (h.lt g (h.sub g hg)).2
  refine ⟨fun p hp => ⟨own_keep' (h.rws p hp).1 fun g hg => hb.block g (hlt g (List.mem_append_left _ (rowB_mem.2 ⟨p, hp, hg⟩))), (h.rws p hp).2⟩, h.oq.keep fun g hg => hb.block g (hlt g (List.mem_append_right _ hg)), h.nd, h.sub, h.bel.trans (hb.mono hN), fun g hg hn => (hb.block g hg).trans (h.keep g hg hn), h.lt, Nat.le_trans h.sz hb.size, h.ms⟩
/-- A cell of a row of kids that are done is written. -/
theorem AF.set (h : AF M N bsA w w0 wr i rows pend xp bP) {g m : Nat} (hg : g ∈ bsA) (hn : g ∉ rowB rows ++ bP) (u : Value) : AF M N bsA w w0 (wr.setCell ⟨g, m, none⟩ u) i rows pend xp bP := by
  have hk : ∀ k, k ≠ g → (wr.setCell ⟨g, m, none⟩ u).heap[k]? = wr.heap[k]? := fun k hk => Below.heap_setCell _ _ _ _ hk
  refine ⟨fun p hp => ⟨own_keep' (h.rws p hp).1 fun k hkk => hk k (fun e => hn (List.mem_append_left _ (rowB_mem.2 ⟨p, hp, e ▸ hkk⟩))), (h.rws p hp).2⟩, h.oq.keep fun k hkk => hk k (fun e => hn (List.mem_append_right _ (e ▸ hkk))), h.nd, h.sub, h.bel.setCell (h.lt g hg).1 _, fun k hkl hkn => (hk k (fun e => hkn (e ▸ hg))).trans (h.keep k hkl hkn), h.lt, by simpa [World.setCell] using h.sz, h.ms⟩
/-- A query is visited. -/
theorem AF.visit {k o b op : Int} {f t u : ByteArray} {lo hi : List Int} {ks pend' : List QT} (h : AF M N bsA w w0 wr i rows (.mk k o f t u lo hi b op ks :: pend') xp bP) :
    ∃ (vl vh vk : Value) (xk xp' : List Value) (bk bp' : List Nat), xp = [.int .i64 k, .int .i64 o, .string f, .string t, .string u, vl, vh, .int .i64 b, .int .i64 op, vk] ++ xp' ∧ RowI wr N vl lo ∧ RowI wr N vh hi ∧
      wr.ownsRow N 25 10 vk ks.length xk ∧ (∀ g, vk.ownBlock = some g → g ∈ bsA ∧ g ∉ rowB (rows ++ [(vl, lo), (vh, hi)]) ++ (bp' ++ bk)) ∧ ks.length * 10 ≤ 40960 ∧ OQL wr N ks xk bk ∧
      AF M N bsA w w0 wr (i + 1) (rows ++ [(vl, lo), (vh, hi)]) (pend' ++ ks) (xp' ++ xk) (bp' ++ bk) := by
  have hoq := h.oq
  rw [OQL] at hoq
  obtain ⟨us, xp', b1, bp', rfl, rfl, hq, hr⟩ := hoq
  rw [OQ] at hq
  obtain ⟨vl, vh, vk, xk, bk, rfl, h1, h2, h3, h4, rfl⟩ := hq
  have hms := h.ms
  rw [massL, mass] at hms
  have hml := massL_len ks
  have hperm : (vk.ownBlock.toList ++ (rowB (rows ++ [(vl, lo), (vh, hi)]) ++ (bp' ++ bk))).Perm (rowB rows ++ (vl.ownBlock.toList ++ (vh.ownBlock.toList ++ (vk.ownBlock.toList ++ bk)) ++ bp')) := by
    rw [rowB_append, List.perm_iff_count]
    intro a
    have e : rowB [(vl, lo), (vh, hi)] = vl.ownBlock.toList ++ vh.ownBlock.toList := by simp [rowB]
    rw [e]
    simp only [List.count_append]
    omega
  have hnd := hperm.nodup_iff.2 h.nd
  obtain ⟨n1, n2, n3⟩ := List.nodup_append.1 hnd
  have hsub : ∀ g ∈ vk.ownBlock.toList ++ (rowB (rows ++ [(vl, lo), (vh, hi)]) ++ (bp' ++ bk)), g ∈ bsA := fun g hg => h.sub g (hperm.mem_iff.1 hg)
  refine ⟨vl, vh, vk, xk, xp', bk, bp', rfl, h1, h2, h3, fun g hg => ⟨hsub g (List.mem_append_left _ (mem_ob.2 hg)), fun hm => n3 g (mem_ob.2 hg) g hm rfl⟩, by omega, h4, ?_⟩
  refine ⟨fun p hp => ?_, hr.append h4, n2, fun g hg => hsub g (List.mem_append_right _ hg), h.bel, h.keep, h.lt, h.sz, by rw [massL_append]; omega⟩
  rcases List.mem_append.1 hp with hp | hp
  · exact h.rws p hp
  · simp only [List.mem_cons, List.not_mem_nil, or_false] at hp
    rcases hp with rfl | rfl
    · exact ⟨h1, by dsimp only; omega⟩
    · exact ⟨h2, by dsimp only; omega⟩
def nthR (rows : List (Value × List Int)) (j : Nat) : Value := ((rows[j]?).map (·.1)).getD undef
def nthZ (rows : List (Value × List Int)) (j : Nat) : List Value := (((rows[j]?).map (·.2)).getD []).map (Value.int .i64)
theorem AF.fam (h : AF M N bsA w w0 wr i rows pend xp bP) : Fam 2 N wr rows.length (nthR rows) (nthR rows) (nthZ rows) (fun _ => []) := by
  have hn := (List.nodup_append.1 h.nd).1
  refine ⟨fun j hj => ?_, fun a b g ha hb hta htb => ?_⟩
  · have hr := (h.rws rows[j] (List.getElem_mem hj)).1
    have e1 : nthR rows j = rows[j].1 := by unfold nthR; rw [List.getElem?_eq_getElem hj]; rfl
    have e2 : nthZ rows j = rows[j].2.map (Value.int .i64) := by unfold nthZ; rw [List.getElem?_eq_getElem hj]; rfl
    rw [e1, e2]
    unfold RowI at hr
    exact ⟨by rw [List.length_map]; exact hr, by rw [List.length_map, List.append_nil]; exact hr⟩
  · have e1 : nthR rows a = rows[a].1 := by unfold nthR; rw [List.getElem?_eq_getElem ha]; rfl
    have e2 : nthR rows b = rows[b].1 := by unfold nthR; rw [List.getElem?_eq_getElem hb]; rfl
    rw [e1] at hta
    rw [e2] at htb
    exact rowB_apart hn a b g _ _ (List.getElem?_eq_getElem ha) (List.getElem?_eq_getElem hb) (hta.elim id id) (htb.elim id id)
theorem nthR_map (rows : List (Value × List Int)) : (List.range rows.length).map (nthR rows) = rows.map (·.1) := by
  apply List.ext_getElem
  · simp
  · intro j h1 h2
    simp only [List.length_map, List.length_range] at h1
    simp [nthR, List.getElem?_eq_getElem h1]
theorem nthZ_len (h : AF M N bsA w w0 wr i rows pend xp bP) (j : Nat) (hj : j < rows.length) : (nthZ rows j).length ≤ 4294967296 := by
  have := (h.rws rows[j] (List.getElem_mem hj)).2
  unfold nthZ
  rw [List.getElem?_eq_getElem hj]
  simp only [Option.map_some, Option.getD_some, List.length_map]
  omega
theorem inRows_mem {g : Nat} (h : InRows rows.length (nthR rows) g) : g ∈ rowB rows := by
  obtain ⟨j, hj, e⟩ := h
  unfold nthR at e
  rw [List.getElem?_eq_getElem hj] at e
  exact rowB_mem.2 ⟨rows[j], List.getElem_mem hj, e⟩
end
/-- Another block of the whole is written. -/
theorem AF.grown {M N : Nat} {bsA bP : List Nat} {w w0 wr w' : World} {i : Nat} {rows : List (Value × List Int)} {pend : List QT} {xp : List Value} (h : AF M N bsA w w0 wr i rows pend xp bP) {g : Nat} (hg : g ∈ bsA) (hn : g ∉ rowB rows ++ bP) (hw : wr.grownBy w' (some g)) : AF M N bsA w w0 w' i rows pend xp bP := by
  have hk : ∀ k, k < wr.heap.size → k ≠ g → w'.heap[k]? = wr.heap[k]? := fun k hl hk => hw.block k hl (fun e => hk (by injection e))
  have hlt : ∀ g ∈ rowB rows ++ bP, g < wr.heap.size := fun g hg => Nat.lt_of_lt_of_le (h.lt g (h.sub g hg)).2 h.sz
  refine ⟨fun p hp => ⟨own_keep' (h.rws p hp).1 fun k hkk => ?_, (h.rws p hp).2⟩, h.oq.keep fun k hkk => hk k (hlt k (List.mem_append_right _ hkk)) (fun e => hn (List.mem_append_right _ (e ▸ hkk))), h.nd, h.sub, h.bel.trans ⟨hw.os, hw.tape, hw.output, hw.size, fun k hkN => hk k (by have := h.lt g hg; have := h.sz; omega) (by have := (h.lt g hg).1; omega)⟩, fun k hkl hkn => (hk k (Nat.lt_of_lt_of_le hkl h.sz) (fun e => hkn (e ▸ hg))).trans (h.keep k hkl hkn), h.lt, Nat.le_trans h.sz hw.size, h.ms⟩
  have hm : k ∈ rowB rows := rowB_mem.2 ⟨p, hp, hkk⟩
  exact hk k (hlt k (List.mem_append_left _ hm)) (fun e => hn (List.mem_append_left _ (e ▸ hm)))
/-- Ten cells of a block are written. -/
theorem ten_put {w : World} {g o : Nat} {t : TypeId} {cur : Array Value} (h : Blk w g t cur) (v0 v1 v2 v3 v4 v5 v6 v7 v8 v9 : Value) : w.grownBy ((((((((((w.setCell ⟨g, o, none⟩ v0).setCell ⟨g, o + 1, none⟩ v1).setCell ⟨g, o + 2, none⟩ v2).setCell ⟨g, o + 3, none⟩ v3).setCell ⟨g, o + 4, none⟩ v4).setCell ⟨g, o + 5, none⟩ v5).setCell ⟨g, o + 6, none⟩ v6).setCell ⟨g, o + 7, none⟩ v7).setCell ⟨g, o + 8, none⟩ v8).setCell ⟨g, o + 9, none⟩ v9) (some g) ∧ ∃ cur', Blk ((((((((((w.setCell ⟨g, o, none⟩ v0).setCell ⟨g, o + 1, none⟩ v1).setCell ⟨g, o + 2, none⟩ v2).setCell ⟨g, o + 3, none⟩ v3).setCell ⟨g, o + 4, none⟩ v4).setCell ⟨g, o + 5, none⟩ v5).setCell ⟨g, o + 6, none⟩ v6).setCell ⟨g, o + 7, none⟩ v7).setCell ⟨g, o + 8, none⟩ v8).setCell ⟨g, o + 9, none⟩ v9) g t cur' ∧ cur'.size = cur.size := by
  have b0 : w.grownBy w (some g) := World.grownBy.refl w _
  have b1 : w.grownBy (w.setCell ⟨g, o, none⟩ v0) (some g) := only_setCell b0 (.inl rfl) v0
  have b2 : w.grownBy ((w.setCell ⟨g, o, none⟩ v0).setCell ⟨g, o + 1, none⟩ v1) (some g) := only_setCell b1 (.inl rfl) v1
  have b3 : w.grownBy (((w.setCell ⟨g, o, none⟩ v0).setCell ⟨g, o + 1, none⟩ v1).setCell ⟨g, o + 2, none⟩ v2) (some g) := only_setCell b2 (.inl rfl) v2
  have b4 : w.grownBy ((((w.setCell ⟨g, o, none⟩ v0).setCell ⟨g, o + 1, none⟩ v1).setCell ⟨g, o + 2, none⟩ v2).setCell ⟨g, o + 3, none⟩ v3) (some g) := only_setCell b3 (.inl rfl) v3
  have b5 : w.grownBy (((((w.setCell ⟨g, o, none⟩ v0).setCell ⟨g, o + 1, none⟩ v1).setCell ⟨g, o + 2, none⟩ v2).setCell ⟨g, o + 3, none⟩ v3).setCell ⟨g, o + 4, none⟩ v4) (some g) := only_setCell b4 (.inl rfl) v4
  have b6 : w.grownBy ((((((w.setCell ⟨g, o, none⟩ v0).setCell ⟨g, o + 1, none⟩ v1).setCell ⟨g, o + 2, none⟩ v2).setCell ⟨g, o + 3, none⟩ v3).setCell ⟨g, o + 4, none⟩ v4).setCell ⟨g, o + 5, none⟩ v5) (some g) := only_setCell b5 (.inl rfl) v5
  have b7 : w.grownBy (((((((w.setCell ⟨g, o, none⟩ v0).setCell ⟨g, o + 1, none⟩ v1).setCell ⟨g, o + 2, none⟩ v2).setCell ⟨g, o + 3, none⟩ v3).setCell ⟨g, o + 4, none⟩ v4).setCell ⟨g, o + 5, none⟩ v5).setCell ⟨g, o + 6, none⟩ v6) (some g) := only_setCell b6 (.inl rfl) v6
  have b8 : w.grownBy ((((((((w.setCell ⟨g, o, none⟩ v0).setCell ⟨g, o + 1, none⟩ v1).setCell ⟨g, o + 2, none⟩ v2).setCell ⟨g, o + 3, none⟩ v3).setCell ⟨g, o + 4, none⟩ v4).setCell ⟨g, o + 5, none⟩ v5).setCell ⟨g, o + 6, none⟩ v6).setCell ⟨g, o + 7, none⟩ v7) (some g) := only_setCell b7 (.inl rfl) v7
  have b9 : w.grownBy (((((((((w.setCell ⟨g, o, none⟩ v0).setCell ⟨g, o + 1, none⟩ v1).setCell ⟨g, o + 2, none⟩ v2).setCell ⟨g, o + 3, none⟩ v3).setCell ⟨g, o + 4, none⟩ v4).setCell ⟨g, o + 5, none⟩ v5).setCell ⟨g, o + 6, none⟩ v6).setCell ⟨g, o + 7, none⟩ v7).setCell ⟨g, o + 8, none⟩ v8) (some g) := only_setCell b8 (.inl rfl) v8
  have b10 : w.grownBy ((((((((((w.setCell ⟨g, o, none⟩ v0).setCell ⟨g, o + 1, none⟩ v1).setCell ⟨g, o + 2, none⟩ v2).setCell ⟨g, o + 3, none⟩ v3).setCell ⟨g, o + 4, none⟩ v4).setCell ⟨g, o + 5, none⟩ v5).setCell ⟨g, o + 6, none⟩ v6).setCell ⟨g, o + 7, none⟩ v7).setCell ⟨g, o + 8, none⟩ v8).setCell ⟨g, o + 9, none⟩ v9) (some g) := only_setCell b9 (.inl rfl) v9
  exact ⟨b10, _, ((((((((((h.set_ (o) v0).set_ (o + 1) v1).set_ (o + 2) v2).set_ (o + 3) v3).set_ (o + 4) v4).set_ (o + 5) v5).set_ (o + 6) v6).set_ (o + 7) v7).set_ (o + 8) v8).set_ (o + 9) v9), by simp⟩
theorem own_at {w : World} {B m n g cap : Nat} {e : TypeId} {xs : List Value} (h : w.ownsRow B e m (.slice (some ⟨g, 0, none⟩) n cap) n xs) {j : Nat} {u : Value} (hj : xs[j]? = some u) : w.cell? ⟨g, j, none⟩ = some u := by
  have := h.cells (g := g) rfl j u hj
  have hadd : (⟨g, 0, none⟩ : Addr).add j = ⟨g, j, none⟩ := by unfold Addr.add; split <;> simp_all
  rwa [hadd] at this
theorem own_sl {w : World} {B m n : Nat} {e : TypeId} {v : Value} {xs : List Value} (h : w.ownsRow B e m v n xs) : ∃ ao cap, v = .slice ao n cap := by
  rcases h.2 with ⟨rfl, h0⟩ | ⟨g, cap, cur, rfl, _⟩
  · exact ⟨none, 0, by rw [h0]⟩
  · exact ⟨_, _, rfl⟩
theorem own_reads {w : World} {B m n cap : Nat} {e : TypeId} {ao : Option Addr} {xs : List Value} (h : w.ownsRow B e m (.slice ao n cap) n xs) : Reads w w.heap.size m ao n xs := by
  refine ⟨h.1, fun hn => ?_⟩
  rcases h.2 with ⟨_, h0⟩ | ⟨g, cap', cur, hv, hb, hg, _⟩
  · omega
  · injection hv with ha _ _
    exact ⟨⟨g, 0, none⟩, ha, (Array.getElem?_eq_some_iff.1 hg).1, fun j u hu => h.cells (g := g) (by rw [ha]; rfl) j u hu⟩
theorem own_one {w : World} {B : Nat} : ∀ {qs : List QT} {xs : List Value} {bs : List Nat}, OQL w B qs xs bs → ∀ u ∈ xs, u.oneCell' = true
  | [], xs, bs, h, u, hu => by rw [OQL] at h; rw [h.1] at hu; cases hu
  | .mk k o f t uu lo hi b op ks :: qs, xs, bs, h, u, hu => by
    rw [OQL] at h
    obtain ⟨us, xs', b1, b2, rfl, rfl, h1, h2⟩ := h
    rcases List.mem_append.1 hu with hu | hu
    · obtain ⟨cl, ch, ck, al, ah, ak, rfl⟩ := OQ.shape h1
      simp only [List.mem_cons, List.not_mem_nil, or_false] at hu
      rcases hu with rfl | rfl | rfl | rfl | rfl | rfl | rfl | rfl | rfl | rfl <;> rfl
    · exact own_one h2 u hu
end Go.Proofs.YtinmiekbhoemjaaDoor.Qry


namespace Go.Proofs.YtinmiekbhoemjaaDoor.QueryOwnWalk
open Go.RowKit Words Tree QryP Kit Sch SchP Owned Qry
set_option maxRecDepth 100000 in
set_option maxHeartbeats 8000000 in
theorem walk (s : ByteArray) (w : World) (hT : PTabs w) : Calls Tryd.prog 7 #[.string s] w (BoolB true w) := by
  have HTAB := Lib.hid (fun (V : World) (hV : Below w.heap.size w V) => ((PT.of hT).next hV).here)
  obtain ⟨x, hx⟩ : ∃ x, parseS numT parT s.data.toList = x := ⟨_, rfl⟩
  have HP0 := Lib.hid (fun (V : World) (hV : Below w.heap.size w V) => (by rw [← hx]; exact parse_any s V (HTAB.out V hV) : Calls Tryd.prog 17 #[.string s] V (ParseV s V x)))
  have HKN := Lib.hid (known_any w hT)
  have HX := Lib.hid hx
  clear hT hx
  go_enter Tryd.func7, Tryd.ntmps7
  go_wp2_with fail
  refine HKN.out.mono ?_
  clear HKN
  rintro e W1 ⟨rfl, hb⟩
  have HB1 := Lib.hid hb
  clear hb
  go_wp2_with fail
  refine (HP0.out W1 HB1.out).mono ?_
  match x with
  | .error (p, c) =>
    rintro e W2 ⟨rfl, hb⟩
    have hc : (c != 0) = true := by rcases (parse_bad HX.out).2 with rfl | rfl | rfl <;> rfl
    have HB2 := Lib.hid (HB1.out.trans (hb.mono HB1.out.size))
    have HB3 := Lib.hid (HB2.out.trans (((Below.refl W2.heap.size W2).alloc (Nat.le_refl _) (.cells zeroQ 25)).mono HB2.out.size))
    unfold zeroQ at HB3 ⊢
    clear hb HX
    go_upto_region 4 with fail
    generalize (W2.alloc (.cells #[.int .i64 0, .int .i64 0, .string ⟨#[]⟩, .string ⟨#[]⟩, .string ⟨#[]⟩, .slice none 0 0, .slice none 0 0, .int .i64 0, .int .i64 0, .slice none 0 0] 25)) = W3 at *
    have HP3 := Lib.hid (HP0.out W3 HB3.out)
    go_wp2_with fail
    refine HP3.out.mono ?_
    clear HP3 HP0
    rintro e W4 ⟨rfl, hb⟩
    have HB4 := Lib.hid (HB3.out.trans (hb.mono HB3.out.size))
    have HB5 := Lib.hid (HB4.out.trans (((Below.refl W4.heap.size W4).alloc (Nat.le_refl _) (.cells zeroQ 25)).mono HB4.out.size))
    unfold zeroQ at HB5 ⊢
    clear hb
    go_wp2_with fail
    go_ret
    exact ⟨rfl, HB5.out⟩
  | .ok q =>
    rintro e W2 ⟨us, bs, rfl, hoq, hnd, hb⟩
    obtain ⟨hok, hlen, -, -, -⟩ := got_ok HX.out
    have hms := parse_ms HX.out
    have HB2 := Lib.hid (HB1.out.trans (hb.mono HB1.out.size))
    have HOA := Lib.hid hoq
    have HNA := Lib.hid hnd
    have HTX := Lib.hid (fun (V : World) (us : List Value) (hV : Below w.heap.size w V) (ha : T.AtL bare V (fun g => g < V.heap.size) (cells q) us) => Qry.text_any q us V hok ha (fun U hU => (HTAB.out U (hV.trans (hU.mono hV.size))).pow) (by omega))
    have HMS := Lib.hid hms
    have HP0' := Lib.hid HP0.out
    generalize str (textQ numT q) = tx at *
    clear hok hlen hms hnd hb HX HP0
    obtain ⟨kd, oc, f, t, u, lo, hi, b, op, ks⟩ := q
    obtain ⟨cl1, ch1, ck1, al1, ah1, ak1, hus⟩ := OQ.shape hoq
    subst hus
    clear hoq
    have hA : Below W2.heap.size W2 (W2.alloc (.cells #[.int .i64 kd, .int .i64 oc, .string f, .string t, .string u, .slice al1 lo.length cl1, .slice ah1 hi.length ch1, .int .i64 b, .int .i64 op, .slice ak1 ks.length ck1] 25)) := (Below.refl _ W2).alloc (Nat.le_refl _) _
    have HX3 := Lib.hid (Blk.new W2 25 #[.int .i64 kd, .int .i64 oc, .string f, .string t, .string u, .slice al1 lo.length cl1, .slice ah1 hi.length ch1, .int .i64 b, .int .i64 op, .slice ak1 ks.length ck1])
    have HOA3 := Lib.hid (HOA.out.below hA (Nat.le_refl _))
    have HB3 := Lib.hid (HB2.out.trans (hA.mono HB2.out.size))
    have hltA : Hid (∀ g ∈ bs, w.heap.size ≤ g ∧ g < W2.heap.size) := Lib.hid (fun g hg => ⟨Nat.le_trans HB1.out.size (HOA.out.mem g hg).1, (HOA.out.mem g hg).2⟩)
    clear hA HOA
    go_upto_region 4 with fail
    generalize (W2.alloc (.cells #[.int .i64 kd, .int .i64 oc, .string f, .string t, .string u, .slice al1 lo.length cl1, .slice ah1 hi.length ch1, .int .i64 b, .int .i64 op, .slice ak1 ks.length ck1] 25)) = W3 at *
    have HP3 := Lib.hid (HP0'.out W3 HB3.out)
    go_wp2_with fail
    refine HP3.out.mono ?_
    clear HP3 HP0'
    rintro e W4 ⟨us2, bs2, rfl, hoq, hnd, hb⟩
    obtain ⟨cl2, ch2, ck2, al2, ah2, ak2, hus⟩ := OQ.shape hoq
    subst hus
    have hA : Below W4.heap.size W4 (W4.alloc (.cells #[.int .i64 kd, .int .i64 oc, .string f, .string t, .string u, .slice al2 lo.length cl2, .slice ah2 hi.length ch2, .int .i64 b, .int .i64 op, .slice ak2 ks.length ck2] 25)) := (Below.refl _ W4).alloc (Nat.le_refl _) _
    have hAA := hb.trans (hA.mono hb.size)
    have hlt3 : W2.heap.size < W3.heap.size := HX3.out.lt
    have HX5 := Lib.hid (HX3.out.below hAA HX3.out.lt)
    have HY5 := Lib.hid (Blk.new W4 25 #[.int .i64 kd, .int .i64 oc, .string f, .string t, .string u, .slice al2 lo.length cl2, .slice ah2 hi.length ch2, .int .i64 b, .int .i64 op, .slice ak2 ks.length ck2])
    have HOA5 := Lib.hid (HOA3.out.below hAA (Nat.le_refl _))
    have HOB5 := Lib.hid (hoq.below hA (Nat.le_refl _))
    have HB5 := Lib.hid (HB3.out.trans (hAA.mono HB3.out.size))
    have h34 : W3.heap.size ≤ W4.heap.size := hb.size
    clear hA hAA hoq hnd hb HX3 HOA3
    go_upto_region 5 with fail
    generalize (W4.alloc (.cells #[.int .i64 kd, .int .i64 oc, .string f, .string t, .string u, .slice al2 lo.length cl2, .slice ah2 hi.length ch2, .int .i64 b, .int .i64 op, .slice ak2 ks.length ck2] 25)) = W5 at *
    obtain ⟨y0, y1, y2, y3, y4, y5, y6, y7, y8, y9⟩ := tenB HY5.out
    have HT5 := Lib.hid (HTX.out W5 _ HB5.out HOB5.out.atw)
    go_wp2_with fail
    refine HT5.out.mono ?_
    clear HT5
    rintro e W6 ⟨rfl, hb⟩
    have HX6 := Lib.hid (HX5.out.below hb HX5.out.lt)
    have HY6 := Lib.hid (HY5.out.below hb HY5.out.lt)
    have HOA6 := Lib.hid (HOA5.out.below hb (Nat.le_refl _))
    have HOB6 := Lib.hid (HOB5.out.below hb (Nat.le_refl _))
    have HB6 := Lib.hid (HB5.out.trans (hb.mono HB5.out.size))
    have h46 : W4.heap.size < W6.heap.size := HY6.out.lt
    clear hb y0 y1 y2 y3 y4 y5 y6 y7 y8 y9 HX5 HY5 HOA5 HOB5
    obtain ⟨p0, p1, p2, p3, p4, p5, p6, p7, p8, p9⟩ := tenB HX6.out
    have hA : Below W6.heap.size W6 (W6.alloc (.cells #[.int .i64 kd, .int .i64 oc, .string f, .string t, .string u, .slice al1 lo.length cl1, .slice ah1 hi.length ch1, .int .i64 b, .int .i64 op, .slice ak1 ks.length ck1] 25)) := (Below.refl _ W6).alloc (Nat.le_refl _) _
    have HY7 := Lib.hid (HY6.out.below hA HY6.out.lt)
    have HOB7 := Lib.hid (HOB6.out.below hA (Nat.le_refl _))
    have hOA7 := HOA6.out.below hA (Nat.le_refl _)
    have HB7 := Lib.hid (HB6.out.trans (hA.mono HB6.out.size))
    have htodo : (W6.alloc (.cells #[.int .i64 kd, .int .i64 oc, .string f, .string t, .string u, .slice al1 lo.length cl1, .slice ah1 hi.length ch1, .int .i64 b, .int .i64 op, .slice ak1 ks.length ck1] 25)).ownsRow W6.heap.size 25 10 (.slice (some ⟨W6.heap.size, 0, none⟩) 1 1) 1 ([] ++ [.int .i64 kd, .int .i64 oc, .string f, .string t, .string u, .slice al1 lo.length cl1, .slice ah1 hi.length ch1, .int .i64 b, .int .i64 op, .slice ak1 ks.length ck1]) := ⟨rfl, .inr ⟨W6.heap.size, 1, _, rfl, Nat.le_refl _, Blk.new W6 25 #[.int .i64 kd, .int .i64 oc, .string f, .string t, .string u, .slice al1 lo.length cl1, .slice ah1 hi.length ch1, .int .i64 b, .int .i64 op, .slice ak1 ks.length ck1], Nat.le_refl _, by decide, rfl, rfl⟩⟩
    have HTD := Lib.hid htodo
    have haf : AF W6.heap.size w.heap.size bs w (W6.alloc (.cells #[.int .i64 kd, .int .i64 oc, .string f, .string t, .string u, .slice al1 lo.length cl1, .slice ah1 hi.length ch1, .int .i64 b, .int .i64 op, .slice ak1 ks.length ck1] 25)) (W6.alloc (.cells #[.int .i64 kd, .int .i64 oc, .string f, .string t, .string u, .slice al1 lo.length cl1, .slice ah1 hi.length ch1, .int .i64 b, .int .i64 op, .slice ak1 ks.length ck1] 25)) 0 [] [.mk kd oc f t u lo hi b op ks] [.int .i64 kd, .int .i64 oc, .string f, .string t, .string u, .slice al1 lo.length cl1, .slice ah1 hi.length ch1, .int .i64 b, .int .i64 op, .slice ak1 ks.length ck1] bs := ⟨fun p hp => absurd hp List.not_mem_nil, OQL.le HB1.out.size (OQL.snoc OQL.nil_ hOA7), HNA.out, fun g hg => hg, HB7.out, fun _ _ _ => rfl, fun g hg => ⟨(hltA.out g hg).1, by have := (hltA.out g hg).2; omega⟩, hA.size, by have := HMS.out; rw [massL, massL]; omega⟩
    have HAF := Lib.hid haf
    have hLB : ∀ g ∈ bs2, W3.heap.size ≤ g ∧ g < W6.heap.size := fun g hg => HOB6.out.mem g hg
    have HLB := Lib.hid hLB
    clear hA hOA7 htodo haf hLB
    go_upto_region 10 with fail
    clear p0 p1 p2 p3 p4 p5 p6 p7 p8 p9 HX6 HOA6 HY6 HOB6
    generalize (W6.alloc (.cells #[.int .i64 kd, .int .i64 oc, .string f, .string t, .string u, .slice al1 lo.length cl1, .slice ah1 hi.length ch1, .int .i64 b, .int .i64 op, .slice ak1 ks.length ck1] 25)) = W7 at *
    obtain ⟨M, hM⟩ : ∃ M, W6.heap.size = M := ⟨_, rfl⟩
    rw [hM] at HAF HTD h46 HLB
    have hNM : w.heap.size ≤ M := by have := HB6.out.size; omega
    have HGB : Hid (∀ g, W3.heap.size ≤ g → g ∉ bs) := Lib.hid (fun g hg hm => by have := (hltA.out g hm).2; omega)
    have HALL : Hid (W7.ownsRow M 22 1 (.slice none 0 0) ([] : List (Value × List Int)).length (([] : List (Value × List Int)).map (·.1))) := Lib.hid (World.ownsRow_nil _ _ _ _)
    obtain ⟨s0, hs1, hs2, hs3, hs4⟩ := info_parts infoS
    obtain ⟨j0, hj1, hj2, hj3, hj4⟩ := info_parts infoKid
    have HSI := Lib.hid (And.intro hs1 (And.intro hs2 (And.intro hs3 hs4)))
    have HJI := Lib.hid (And.intro hj1 (And.intro hj2 (And.intro hj3 hj4)))
    clear hs1 hs2 hs3 hs4 hj1 hj2 hj3 hj4
    go_upto_region 11 with fail
    rw [hM]
    go_loopg [10, 11, 12] (massL [QT.mk kd oc f t u lo hi b op ks]) (fun m va vt vi wr => ∃ (i gt ct : Nat) (rows : List (Value × List Int)) (pend : List QT) (xv xp : List Value) (bP : List Nat), vt = .slice (some ⟨gt, 0, none⟩) (i + pend.length) ct ∧ vi = .int .i64 i ∧ m = massL pend ∧ M ≤ gt ∧ Hid (AF M w.heap.size bs w W7 wr i rows pend xp bP) ∧ Hid (wr.ownsRow M 22 1 va rows.length (rows.map (·.1))) ∧ Hid (wr.ownsRow M 25 10 vt (i + pend.length) (xv ++ xp)) ∧ Hid (rows.length = 2 * i ∧ xv.length = i * 10))
    case atStart => exact ⟨0, M, 1, [], [.mk kd oc f t u lo hi b op ks], [], _, _, rfl, rfl, rfl, Nat.le_refl _, HAF, HALL, HTD, Lib.hid ⟨rfl, rfl⟩⟩
    case round =>
      clear HAF HALL HTD
      obtain ⟨i, gt, ct, rows, pend, xv, xp, bP, rfl, rfl, rfl, hgt, HF, HL, HD, HN⟩ := hrel
      cases pend with
      | nil =>
        have hrl : rows.length ≤ 4294967296 := by have := HN.out.1; have := HF.out.ms; omega
        have HAP := Lib.hid (apart_any u10 rows.length M w.heap.size (nthR rows) (nthZ rows) wr (by rw [nthR_map]; exact HL.out) HF.out.fam (fun j hj => nthZ_len HF.out j hj) hrl HF.out.bel.size)
        have HKB : Hid (∀ V, But (InRows rows.length (nthR rows)) wr V → ∀ g, g < M → W3.heap.size ≤ g → V.heap[g]? = W7.heap[g]?) := Lib.hid (fun V hV g hg hg3 => (hV.block g (Nat.lt_of_lt_of_le hg HF.out.sz) (fun hr => HGB.out g hg3 (HF.out.sub g (List.mem_append_left _ (inRows_mem hr))))).trans (HF.out.keep g hg (HGB.out g hg3)))
        have HBB : Hid (∀ V, But (InRows rows.length (nthR rows)) wr V → Below w.heap.size w V) := Lib.hid (fun V hV => HF.out.bel.trans (hV.below HF.out.bel.size (fun g hg hr => by have := (HF.out.lt g (HF.out.sub g (List.mem_append_left _ (inRows_mem hr)))).1; omega)))
        go_wp2_with fail
        refine HAP.out.mono ?_
        clear HAP
        rintro e W8 ⟨rfl, hbut⟩
        have HB8 := Lib.hid (HBB.out W8 hbut)
        have HY8 : Hid (Blk W8 W4.heap.size 25 #[.int .i64 kd, .int .i64 oc, .string f, .string t, .string u, .slice al2 lo.length cl2, .slice ah2 hi.length ch2, .int .i64 b, .int .i64 op, .slice ak2 ks.length ck2]) := Lib.hid ((HKB.out W8 hbut _ h46 h34).trans HY7.out)
        have HOB8 := Lib.hid (HOB7.out.keep (w' := W8) (fun g hg => HKB.out W8 hbut g (HLB.out g hg).2 (HLB.out g hg).1))
        clear hbut HF HL HD HN HKB HBB
        obtain ⟨y0, y1, y2, y3, y4, y5, y6, y7, y8, y9⟩ := tenB HY8.out
        have HT8 := Lib.hid (HTX.out W8 _ HB8.out HOB8.out.atw)
        go_wp2_with fail
        refine HT8.out.mono ?_
        clear HT8
        rintro e W9 ⟨rfl, hb⟩
        have HB9 := Lib.hid (HB8.out.trans (hb.mono HB8.out.size))
        clear hb y0 y1 y2 y3 y4 y5 y6 y7 y8 y9
        go_wp2_with fail
        go_ret
        exact ⟨rfl, HB9.out⟩
      | cons q pend =>
        obtain ⟨kq, oq, fq, tq, uq, loq, hiq, bq, opq, ksq⟩ := q
        obtain ⟨vl, vh, vk, xk, xp', bk, bp', rfl, hvl, hvh, hvk, hgk, hks, hok, hAF⟩ := HF.out.visit
        have hmass : 10 + massL (pend ++ ksq) ≤ massL (.mk kq oq fq tq uq loq hiq bq opq ksq :: pend) := by rw [massL, mass, massL_append]; omega
        have hml := massL_len (.mk kq oq fq tq uq loq hiq bq opq ksq :: pend)
        have hms := HF.out.ms
        rw [List.length_cons] at hml
        obtain ⟨alq, clq, rfl⟩ := own_sl hvl
        obtain ⟨ahq, chq, rfl⟩ := own_sl hvh
        obtain ⟨akq, ckq, rfl⟩ := own_sl hvk
        have h1 : (0 : Int) ≤ (i : Int) := by omega
        have h2 : (i : Int) < ((i + (pend.length + 1) : Nat) : Int) := by omega
        have hxl := HN.out.2
        have HD1 : Hid (∀ V : World, V.ownsRow M 25 10 (.slice (some ⟨gt, 0, none⟩) (i + (pend.length + 1)) ct) (i + (pend.length + 1)) (xv ++ ([.int .i64 kq, .int .i64 oq, .string fq, .string tq, .string uq, .slice alq loq.length clq, .slice ahq hiq.length chq, .int .i64 bq, .int .i64 opq, .slice akq ksq.length ckq] ++ xp')) → V.cell? ⟨gt, i * 10 + 5, none⟩ = some (.slice alq loq.length clq) ∧ V.cell? ⟨gt, i * 10 + 6, none⟩ = some (.slice ahq hiq.length chq) ∧ V.cell? ⟨gt, i * 10 + 9, none⟩ = some (.slice akq ksq.length ckq)) :=
          Lib.hid (fun V hV => ⟨own_at hV (by rw [List.getElem?_append_right (by omega), hxl, Nat.add_sub_cancel_left]; rfl), own_at hV (by rw [List.getElem?_append_right (by omega), hxl, Nat.add_sub_cancel_left]; rfl), own_at hV (by rw [List.getElem?_append_right (by omega), hxl, Nat.add_sub_cancel_left]; rfl)⟩)
        have HDr := Lib.hid (HD.out : wr.ownsRow M 25 10 (.slice (some ⟨gt, 0, none⟩) (i + (pend.length + 1)) ct) (i + (pend.length + 1)) (xv ++ ([.int .i64 kq, .int .i64 oq, .string fq, .string tq, .string uq, .slice alq loq.length clq, .slice ahq hiq.length chq, .int .i64 bq, .int .i64 opq, .slice akq ksq.length ckq] ++ xp')))
        obtain ⟨c5, c6, c9⟩ := HD1.out wr HDr.out
        have HAF := Lib.hid hAF
        have HVK := Lib.hid hvk
        have HGK := Lib.hid hgk
        have HOK := Lib.hid (own_one hok)
        have HXL := Lib.hid hxl
        have HMM := Lib.hid hmass
        have hgtl : gt < wr.heap.size := (World.ownsRow.lt HDr.out gt rfl).2
        have hsz : M ≤ wr.heap.size := HF.out.sz
        clear hvl hvh hvk hgk hok hAF hxl hmass HF HD
        have hlen1 : (i + (pend.length + 1)) * 152 + 4096 * 152 ≤ 140737488355328 := by omega
        go_upto_region 13 with fail
        refine wp_region_held_drew (S := fun V => V.cell? ⟨gt, i * 10 + 5, none⟩ = some (.slice alq loq.length clq) ∧ V.cell? ⟨gt, i * 10 + 6, none⟩ = some (.slice ahq hiq.length chq)) (by kernel_rfl) ⟨c5, c6⟩ (fun hS0 => ?_)
        have HDd : Hid (wr.drew.ownsRow M 25 10 (.slice (some ⟨gt, 0, none⟩) (i + (pend.length + 1)) ct) (i + (pend.length + 1)) (xv ++ ([.int .i64 kq, .int .i64 oq, .string fq, .string tq, .string uq, .slice alq loq.length clq, .slice ahq hiq.length chq, .int .i64 bq, .int .i64 opq, .slice akq ksq.length ckq] ++ xp'))) := HDr
        have HLd : Hid (wr.drew.ownsRow M 22 1 u10 rows.length (rows.map (·.1))) := HL
        have HBd : Hid (Below M wr wr.drew) := Lib.hid ((Below.refl _ _).drew)
        have hgtd : gt < wr.drew.heap.size := hgtl
        clear c5 c6 c9
        generalize wr.drew = V0 at *
        refine' wpAnyH_take (i := 0) (v := _) (by simp only [List.getElem?_toArray, List.getElem?_cons_zero]; rfl) (by kernel_rfl) (by kernel_rfl) (by kernel_rfl) (by exact fun _ _ _ h => h) (Or.inl ⟨by rfl, ?hm0_1⟩) hS0 ?rm0_1
        case hm0_1 => intro V hSw; have c5 := hSw.1; have c6 := hSw.2; clear hSw; go_simp; try with_reducible rfl
        try simp only [Act.put, List.setIfInBounds_toArray, List.set_cons_zero, List.set_cons_succ]
        refine' wpAnyH_take (i := 1) (v := _) (by simp only [List.getElem?_toArray, List.getElem?_cons_succ, List.getElem?_cons_zero]; rfl) (by kernel_rfl) (by kernel_rfl) (by kernel_rfl) (by exact fun _ _ _ h => h) (Or.inl ⟨by rfl, ?hm1_2⟩) hS0 ?rm1_2
        case hm1_2 => intro V hSw; have c5 := hSw.1; have c6 := hSw.2; clear hSw; go_simp; try with_reducible rfl
        try simp only [Act.put, List.setIfInBounds_toArray, List.set_cons_zero, List.set_cons_succ]
        refine' wpAnyH_take (i := 2) (v := _) (by simp only [List.getElem?_toArray, List.getElem?_cons_succ, List.getElem?_cons_zero]; rfl) (by kernel_rfl) (by kernel_rfl) (by kernel_rfl) (by exact fun _ _ _ h => h) (Or.inl ⟨by rfl, ?hm2_3⟩) hS0 ?rm2_3
        case hm2_3 => intro V hSw; have c5 := hSw.1; have c6 := hSw.2; clear hSw; go_simp; try with_reducible rfl
        try simp only [Act.put, List.setIfInBounds_toArray, List.set_cons_zero, List.set_cons_succ]
        refine' wpAnyH_take (i := 3) (v := _) (by simp only [List.getElem?_toArray, List.getElem?_cons_succ, List.getElem?_cons_zero]; rfl) (by kernel_rfl) (by kernel_rfl) (by kernel_rfl) (by exact fun _ _ _ h => h) (Or.inl ⟨by rfl, ?hm3_4⟩) hS0 ?rm3_4
        case hm3_4 => intro V hSw; have c5 := hSw.1; have c6 := hSw.2; clear hSw; go_simp; try with_reducible rfl
        try simp only [Act.put, List.setIfInBounds_toArray, List.set_cons_zero, List.set_cons_succ]
        refine' wpAnyH_take (i := 4) (v := _) (by simp only [List.getElem?_toArray, List.getElem?_cons_succ, List.getElem?_cons_zero]; rfl) (by kernel_rfl) (by kernel_rfl) (by kernel_rfl) (by exact fun _ _ _ h => h) (Or.inl ⟨by rfl, ?hm4_5⟩) hS0 ?rm4_5
        case hm4_5 => intro V hSw; have c5 := hSw.1; have c6 := hSw.2; clear hSw; go_simp; try with_reducible rfl
        try simp only [Act.put, List.setIfInBounds_toArray, List.set_cons_zero, List.set_cons_succ]
        refine' wpAnyH_take (i := 5) (v := _) (by simp only [List.getElem?_toArray, List.getElem?_cons_succ, List.getElem?_cons_zero]; rfl) (by kernel_rfl) (by kernel_rfl) (by kernel_rfl) (by exact fun _ _ _ h => h) (Or.inl ⟨by rfl, ?hm5_6⟩) hS0 ?rm5_6
        case hm5_6 => intro V hSw; have c5 := hSw.1; have c6 := hSw.2; clear hSw; go_simp; try with_reducible rfl
        try simp only [Act.put, List.setIfInBounds_toArray, List.set_cons_zero, List.set_cons_succ]
        refine' wpAnyH_take (i := 6) (v := _) (by simp only [List.getElem?_toArray, List.getElem?_cons_succ, List.getElem?_cons_zero]; rfl) (by kernel_rfl) (by kernel_rfl) (by kernel_rfl) (by exact fun _ _ _ h => h) (Or.inl ⟨by rfl, ?hm6_7⟩) hS0 ?rm6_7
        case hm6_7 => intro V hSw; have c5 := hSw.1; have c6 := hSw.2; clear hSw; go_simp; try with_reducible rfl
        try simp only [Act.put, List.setIfInBounds_toArray, List.set_cons_zero, List.set_cons_succ]
        refine' wpAnyH_take (i := 7) (v := _) (by simp only [List.getElem?_toArray, List.getElem?_cons_succ, List.getElem?_cons_zero]; rfl) (by kernel_rfl) (by kernel_rfl) (by kernel_rfl) (by exact fun _ _ _ h => h) (Or.inl ⟨by rfl, ?hm7_8⟩) hS0 ?rm7_8
        case hm7_8 => intro V hSw; have c5 := hSw.1; have c6 := hSw.2; clear hSw; go_simp; try with_reducible rfl
        try simp only [Act.put, List.setIfInBounds_toArray, List.set_cons_zero, List.set_cons_succ]
        refine' wpAnyH_take (i := 8) (v := _) (by simp only [List.getElem?_toArray, List.getElem?_cons_succ, List.getElem?_cons_zero]; rfl) (by kernel_rfl) (by kernel_rfl) (by kernel_rfl) (by exact fun _ _ _ h => h) (Or.inl ⟨by rfl, ?hm8_9⟩) hS0 ?rm8_9
        case hm8_9 => intro V hSw; have c5 := hSw.1; have c6 := hSw.2; clear hSw; go_simp; try with_reducible rfl
        try simp only [Act.put, List.setIfInBounds_toArray, List.set_cons_zero, List.set_cons_succ]
        refine' wpAnyH_take (i := 9) (v := _) (by simp only [List.getElem?_toArray, List.getElem?_cons_succ, List.getElem?_cons_zero]; rfl) (by kernel_rfl) (by kernel_rfl) (by kernel_rfl) (by exact fun _ _ _ h => h) (Or.inl ⟨by rfl, ?hm9_10⟩) hS0 ?rm9_10
        case hm9_10 => intro V hSw; have c5 := hSw.1; have c6 := hSw.2; clear hSw; go_simp; try with_reducible rfl
        try simp only [Act.put, List.setIfInBounds_toArray, List.set_cons_zero, List.set_cons_succ]
        refine' wpAnyH_take (i := 10) (v := _) (by simp only [List.getElem?_toArray, List.getElem?_cons_succ, List.getElem?_cons_zero]; rfl) (by kernel_rfl) (by kernel_rfl) (by kernel_rfl) (by exact fun _ _ _ h => h) (Or.inl ⟨by rfl, ?hm10_11⟩) hS0 ?rm10_11
        case hm10_11 => intro V hSw; have c5 := hSw.1; have c6 := hSw.2; clear hSw; go_simp; try with_reducible rfl
        try simp only [Act.put, List.setIfInBounds_toArray, List.set_cons_zero, List.set_cons_succ]
        refine wpAnyH_ready (rs := [11]) (by kernel_rfl) (by simp) ?_
        refine' AllReadyH.cons (by simp only [List.getElem?_toArray, List.getElem?_cons_succ, List.getElem?_cons_zero]; rfl) (fun K hK => ?_) AllReadyH.nil
        go_simp
        have hA : Below V0.heap.size V0 (V0.alloc (.cells #[.slice alq loq.length clq, .slice ahq hiq.length chq] 22)) := (Below.refl _ _).alloc (Nat.le_refl _) _
        have hS1 : (fun V => V.cell? ⟨gt, i * 10 + 5, none⟩ = some (.slice alq loq.length clq) ∧ V.cell? ⟨gt, i * 10 + 6, none⟩ = some (.slice ahq hiq.length chq)) (V0.alloc (.cells #[.slice alq loq.length clq, .slice ahq hiq.length chq] 22)) := ⟨(hA.cell hgtd).trans hS0.1, (hA.cell hgtd).trans hS0.2⟩
        refine hK.out _ _ hS1 (fun hT1 => ?_)
        clear hK hT1 K
        try simp only [Act.put, List.setIfInBounds_toArray, List.set_cons_zero, List.set_cons_succ]
        refine wpAnyH_ready (rs := [12]) (by kernel_rfl) (by simp) ?_
        refine' AllReadyH.cons (by simp only [List.getElem?_toArray, List.getElem?_cons_succ, List.getElem?_cons_zero]; rfl) (fun K hK => ?_) AllReadyH.nil
        obtain ⟨hs1, hs2, hs3, hs4⟩ := HSI.out
        have hn2 := HN.out.1
        have hown : (V0.alloc (.cells #[.slice alq loq.length clq, .slice ahq hiq.length chq] 22)).ownsRow M 22 1 u10 rows.length (rows.map (·.1)) := own_below HLd.out hA
        refine step_append_any _ rfl (.tmp 40) (.tmp 51) 37 rfl M 22 s0 _ 1 24 Tryd.underlying37 hs1 hs2 hs3 hs4 rfl (by decide) _ _ _ rfl hown (V0.heap.size + 1) (some ⟨V0.heap.size, 0, none⟩) 2 2 [.slice alq loq.length clq, .slice ahq hiq.length chq] rfl ?e1 ?e2 ?e3 ?e4 ?e5 ?_
        case e1 => exact ⟨rfl, fun _ => ⟨_, rfl, Nat.lt_succ_self _, World.news_of_block (Blk.new V0 _ _)⟩⟩
        case e2 => intro u hu; simp only [List.mem_cons, List.not_mem_nil, or_false] at hu; rcases hu with rfl | rfl <;> rfl
        case e3 => unfold maxLen; omega
        case e4 => omega
        case e5 => exact Nat.le_trans hsz (Nat.le_trans HBd.out.size hA.size)
        intro m' V2 ho hg hat
        replace hg : (V0.alloc (.cells #[.slice alq loq.length clq, .slice ahq hiq.length chq] 22)).grownBy V2 u10.ownBlock := hg
        have hVM : M ≤ V0.heap.size := Nat.le_trans hsz HBd.out.size
        have hb2 : Below M V0 V2 := (hA.mono hVM).grown hg (Nat.le_trans hVM hA.size) (fun r e => (hown.lt r e).1)
        have hd2 : V2.ownsRow M 25 10 (.slice (some ⟨gt, 0, none⟩) (i + (pend.length + 1)) ct) (i + (pend.length + 1)) (xv ++ ([.int .i64 kq, .int .i64 oq, .string fq, .string tq, .string uq, .slice alq loq.length clq, .slice ahq hiq.length chq, .int .i64 bq, .int .i64 opq, .slice akq ksq.length ckq] ++ xp')) := (own_below HDd.out hA).kept hg (by
          rcases own_own_ne hown (own_below HDd.out hA) (by decide) with h | h
          · exact .inr (by rw [h]; simp [Value.ownBlock])
          · exact .inr (fun e => h e.symm))
        have HB2 := Lib.hid (HBd.out.trans hb2)
        have HD2 := Lib.hid hd2
        have HL2 : Hid (V2.ownsRow M 22 1 m' (rows ++ [(Value.slice alq loq.length clq, loq), (Value.slice ahq hiq.length chq, hiq)]).length ((rows ++ [(Value.slice alq loq.length clq, loq), (Value.slice ahq hiq.length chq, hiq)]).map (·.1))) := Lib.hid (by rw [List.length_append, List.map_append]; exact ho)
        obtain ⟨c5, c6, c9⟩ := HD1.out V2 hd2
        have hgt2 := hd2.lt gt rfl
        clear hs1 hs2 hs3 hs4 hown hA ho hg hat hb2 hd2 hn2 hS1 hS0 HDd HLd HBd hgtd hVM
        refine hK.out _ _ ⟨c5, c6⟩ (fun hT1 => ?_)
        clear hK hT1 K
        try simp only [Act.put, List.setIfInBounds_toArray, List.set_cons_zero, List.set_cons_succ]
        refine' wpAnyH_take (i := 13) (v := _) (by simp only [List.getElem?_toArray, List.getElem?_cons_succ, List.getElem?_cons_zero]; rfl) (by kernel_rfl) (by kernel_rfl) (by kernel_rfl) (by exact fun _ _ _ h => h) (Or.inl ⟨by rfl, ?hm13_12⟩) ⟨c5, c6⟩ ?rm13_12
        case hm13_12 => intro V hSw; clear hSw; go_simp; try with_reducible rfl
        try simp only [Act.put, List.setIfInBounds_toArray, List.set_cons_zero, List.set_cons_succ]
        refine wpAnyH_done (by kernel_rfl) ?_ _
        have HAF2 := Lib.hid (HAF.out.next HB2.out hNM)
        have HVK2 := Lib.hid (own_keep' (w' := V2) HVK.out (fun g hg => HB2.out.block g (HAF.out.lt g (HGK.out g hg).1).2))
        obtain ⟨hj1, hj2, hj3, hj4⟩ := HJI.out
        have hro := own_reads HVK2.out
        have hsz2 : M ≤ V2.heap.size := HAF2.out.sz
        go_wp2_with (at_builtin; refine wpList_append_any _ rfl (.tmp 53) (.tmp 58) 23 rfl M 25 j0 (.agg zeroQ) 10 152 Tryd.underlying23 hj1 hj2 hj3 hj4 rfl (by decide) _ _ _ rfl HD2.out V2.heap.size akq ksq.length ckq xk rfl hro HOK.out ?g1 ?g2 ?g3 ?_)
        case g1 => unfold maxLen; omega
        case g2 => omega
        case g3 => exact hsz2
        intro t' V3 ho hg hat
        replace hg : V2.grownBy V3 (some gt) := hg
        obtain ⟨gt', ct', rfl, hgt', hgl'⟩ := ho.form (by omega)
        obtain ⟨n3, hn3⟩ : ∃ n, i + (pend.length + 1) + ksq.length = n := ⟨_, rfl⟩
        have hn3' : i + 1 + (pend ++ ksq).length = n3 := by rw [List.length_append]; omega
        have hb3 : Below M V2 V3 := (Below.refl M V2).grown hg hsz2 (fun r e => by injection e with e; omega)
        have HD3 : Hid (V3.ownsRow M 25 10 (.slice (some ⟨gt', 0, none⟩) n3 ct') n3 ((xv ++ [.int .i64 kq, .int .i64 oq, .string fq, .string tq, .string uq, .slice alq loq.length clq, .slice ahq hiq.length chq, .int .i64 bq, .int .i64 opq, .slice akq ksq.length ckq]) ++ (xp' ++ xk))) := Lib.hid (by
          rw [← hn3]
          rw [List.append_assoc xv]; exact ho)
        have HL3 := Lib.hid (HL2.out.kept hg (by
          rcases own_own_ne HL2.out HD2.out (by decide) with h | h
          · exact .inl h
          · exact .inr h))
        have HAF3 := Lib.hid (HAF2.out.next hb3 hNM)
        have HVK3 := Lib.hid (own_keep' (w' := V3) HVK2.out (fun g hg => hb3.block g (HAF.out.lt g (HGK.out g hg).1).2))
        have HKB : Hid (0 < ksq.length → ∃ (gk : Nat) (cur : Array Value), akq = some ⟨gk, 0, none⟩ ∧ Blk V3 gk 25 cur ∧ ksq.length * 10 ≤ cur.size) := Lib.hid (fun h0 => by
          rcases HVK3.out.2 with ⟨_, h⟩ | ⟨g, cap, cur, hv, _, hgg, hc, _, hs, _⟩
          · omega
          · injection hv with e1 e2 e3
            exact ⟨g, cur, e1, hgg, by rw [hs]; exact Nat.mul_le_mul_right 10 hc⟩)
        have HN3 := Lib.hid hn3'
        rw [hn3]
        clear hn3 hn3' hb3 ho hg hat hro hj1 hj2 hj3 hj4 HVK2 HVK3 HAF2 HL2 HD2 HB2 c5 c6 c9 hgt2 hgl' HAF HVK HD1 HDr HL hgtl
        go_upto_region 16 with fail
        go_loopg [13] ksq.length (fun m v wr => ∃ k : Nat, v = .int .i64 k ∧ k ≤ ksq.length ∧ m = ksq.length - k ∧ Hid (AF M w.heap.size bs w W7 wr (i + 1) (rows ++ [(Value.slice alq loq.length clq, loq), (Value.slice ahq hiq.length chq, hiq)]) (pend ++ ksq) (xp' ++ xk) (bp' ++ bk)) ∧ Hid (wr.ownsRow M 22 1 m' (rows ++ [(Value.slice alq loq.length clq, loq), (Value.slice ahq hiq.length chq, hiq)]).length ((rows ++ [(Value.slice alq loq.length clq, loq), (Value.slice ahq hiq.length chq, hiq)]).map (·.1))) ∧ Hid (wr.ownsRow M 25 10 (.slice (some ⟨gt', 0, none⟩) n3 ct') n3 ((xv ++ [.int .i64 kq, .int .i64 oq, .string fq, .string tq, .string uq, .slice alq loq.length clq, .slice ahq hiq.length chq, .int .i64 bq, .int .i64 opq, .slice akq ksq.length ckq]) ++ (xp' ++ xk))) ∧ Hid (0 < ksq.length → ∃ (gk : Nat) (cur : Array Value), akq = some ⟨gk, 0, none⟩ ∧ Blk wr gk 25 cur ∧ ksq.length * 10 ≤ cur.size))
        case atStart => exact ⟨0, rfl, Nat.zero_le _, rfl, HAF3, HL3, HD3, HKB⟩
        case round =>
          clear HAF3 HL3 HD3 HKB
          obtain ⟨k, rfl, hkk, rfl, HF, HL, HD, HK⟩ := hrel
          have hsz3 : M ≤ wr.heap.size := HF.out.sz
          have h3 : (i : Int) < (n3 : Int) := by have := HN3.out; omega
          have hx9 : ((xv ++ [.int .i64 kq, .int .i64 oq, .string fq, .string tq, .string uq, .slice alq loq.length clq, .slice ahq hiq.length chq, .int .i64 bq, .int .i64 opq, .slice akq ksq.length ckq]) ++ (xp' ++ xk))[i * 10 + 9]? = some (.slice akq ksq.length ckq) := by
            rw [List.append_assoc, List.getElem?_append_right (by rw [HXL.out]; omega), HXL.out, Nat.add_sub_cancel_left]; rfl
          have c9 := own_at HD.out hx9
          clear hx9
          by_cases hlt : k < ksq.length
          · obtain ⟨gk, cur, hak, hbk, hcs⟩ := HK.out (by omega)
            subst hak
            obtain ⟨hgb, hgn⟩ := HGK.out gk rfl
            have hgM := (HF.out.lt gk hgb).2
            have h4 : (0 : Int) ≤ (k : Int) := by omega
            have h5 : (k : Int) < (ksq.length : Int) := by omega
            have d0 : wr.cell? ⟨gk, k * 10, none⟩ = some (cur[k * 10 + 0]'(by omega)) := (hbk.cell _).trans (Array.getElem?_eq_getElem (by omega))
            have z0 : wr.frozen? ⟨gk, k * 10, none⟩ = false := hbk.frozen _
            have d1 : wr.cell? ⟨gk, k * 10 + 1, none⟩ = some (cur[k * 10 + 1]'(by omega)) := (hbk.cell _).trans (Array.getElem?_eq_getElem (by omega))
            have z1 : wr.frozen? ⟨gk, k * 10 + 1, none⟩ = false := hbk.frozen _
            have d2 : wr.cell? ⟨gk, k * 10 + 2, none⟩ = some (cur[k * 10 + 2]'(by omega)) := (hbk.cell _).trans (Array.getElem?_eq_getElem (by omega))
            have z2 : wr.frozen? ⟨gk, k * 10 + 2, none⟩ = false := hbk.frozen _
            have d3 : wr.cell? ⟨gk, k * 10 + 3, none⟩ = some (cur[k * 10 + 3]'(by omega)) := (hbk.cell _).trans (Array.getElem?_eq_getElem (by omega))
            have z3 : wr.frozen? ⟨gk, k * 10 + 3, none⟩ = false := hbk.frozen _
            have d4 : wr.cell? ⟨gk, k * 10 + 4, none⟩ = some (cur[k * 10 + 4]'(by omega)) := (hbk.cell _).trans (Array.getElem?_eq_getElem (by omega))
            have z4 : wr.frozen? ⟨gk, k * 10 + 4, none⟩ = false := hbk.frozen _
            have d5 : wr.cell? ⟨gk, k * 10 + 5, none⟩ = some (cur[k * 10 + 5]'(by omega)) := (hbk.cell _).trans (Array.getElem?_eq_getElem (by omega))
            have z5 : wr.frozen? ⟨gk, k * 10 + 5, none⟩ = false := hbk.frozen _
            have d6 : wr.cell? ⟨gk, k * 10 + 6, none⟩ = some (cur[k * 10 + 6]'(by omega)) := (hbk.cell _).trans (Array.getElem?_eq_getElem (by omega))
            have z6 : wr.frozen? ⟨gk, k * 10 + 6, none⟩ = false := hbk.frozen _
            have d7 : wr.cell? ⟨gk, k * 10 + 7, none⟩ = some (cur[k * 10 + 7]'(by omega)) := (hbk.cell _).trans (Array.getElem?_eq_getElem (by omega))
            have z7 : wr.frozen? ⟨gk, k * 10 + 7, none⟩ = false := hbk.frozen _
            have d8 : wr.cell? ⟨gk, k * 10 + 8, none⟩ = some (cur[k * 10 + 8]'(by omega)) := (hbk.cell _).trans (Array.getElem?_eq_getElem (by omega))
            have z8 : wr.frozen? ⟨gk, k * 10 + 8, none⟩ = false := hbk.frozen _
            have d9 : wr.cell? ⟨gk, k * 10 + 9, none⟩ = some (cur[k * 10 + 9]'(by omega)) := (hbk.cell _).trans (Array.getElem?_eq_getElem (by omega))
            have z9 : wr.frozen? ⟨gk, k * 10 + 9, none⟩ = false := hbk.frozen _
            have hne : gk ≠ gt' := by omega
            obtain ⟨hput, cur', hbk', hcs'⟩ := ten_put (o := k * 10) hbk (.int .i64 2) (.int .i64 0) (.string ⟨#[]⟩) (.string ⟨#[]⟩) (.string ⟨#[]⟩) (.slice none 0 0) (.slice none 0 0) (.int .i64 0) (.int .i64 0) (.slice none 0 0)
            have HFn := Lib.hid (HF.out.grown hgb hgn hput)
            have HLn := Lib.hid (HL.out.kept hput (by
              rcases own_own_ne HL.out HD.out (by decide) with h | h
              · exact .inl h
              · exact .inr (fun e => by have := (HL.out.lt gk e).1; omega)))
            have HDn := Lib.hid (HD.out.kept hput (.inr (fun e => by have := (HD.out.lt gk e).1; omega)))
            have HKn : Hid (0 < ksq.length → ∃ (g2 : Nat) (cur2 : Array Value), (some ⟨gk, 0, none⟩ : Option Addr) = some ⟨g2, 0, none⟩ ∧ Blk ((((((((((wr.setCell ⟨gk, k * 10, none⟩ (.int .i64 2)).setCell ⟨gk, k * 10 + 1, none⟩ (.int .i64 0)).setCell ⟨gk, k * 10 + 2, none⟩ (.string ⟨#[]⟩)).setCell ⟨gk, k * 10 + 3, none⟩ (.string ⟨#[]⟩)).setCell ⟨gk, k * 10 + 4, none⟩ (.string ⟨#[]⟩)).setCell ⟨gk, k * 10 + 5, none⟩ (.slice none 0 0)).setCell ⟨gk, k * 10 + 6, none⟩ (.slice none 0 0)).setCell ⟨gk, k * 10 + 7, none⟩ (.int .i64 0)).setCell ⟨gk, k * 10 + 8, none⟩ (.int .i64 0)).setCell ⟨gk, k * 10 + 9, none⟩ (.slice none 0 0)) g2 25 cur2 ∧ ksq.length * 10 ≤ cur2.size) := Lib.hid (fun _ => ⟨gk, cur', rfl, hbk', by omega⟩)
            clear hput hbk' hcs' HF HL HD HK
            go_wp2_with fail
            go_roundg (ksq.length - (k + 1))
            case measure => omega
            case rel => exact ⟨k + 1, by go_num, by omega, rfl, HFn, HLn, HDn, HKn⟩
          · obtain rfl : k = ksq.length := by omega
            clear HK
            have hmm := HMM.out
            go_wp2_with fail
            go_roundg (massL (pend ++ ksq))
            case measure => omega
            case rel => exact ⟨i + 1, gt', ct', (rows ++ [(Value.slice alq loq.length clq, loq), (Value.slice ahq hiq.length chq, hiq)]), pend ++ ksq, xv ++ [.int .i64 kq, .int .i64 oq, .string fq, .string tq, .string uq, .slice alq loq.length clq, .slice ahq hiq.length chq, .int .i64 bq, .int .i64 opq, .slice akq ksq.length ckq], xp' ++ xk, bp' ++ bk, by rw [HN3.out], by go_num, rfl, hgt', HF, HL, Lib.hid (by rw [HN3.out]; exact HD.out), Lib.hid ⟨by have := HN.out.1; simp; omega, by rw [List.length_append, HXL.out]; show i * 10 + 10 = (i + 1) * 10; omega⟩⟩
end Go.Proofs.YtinmiekbhoemjaaDoor.QueryOwnWalk
