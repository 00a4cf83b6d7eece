/- Contracts: a query that is lent, in memory of its own with a mark behind each list; is it as it was? -/
import Derived.Test.YtinmiekbhoemjaaDoorPack28
set_option linter.unusedVariables false
namespace Go.Proofs.YtinmiekbhoemjaaDoor.Qry
open Go.RowKit Words Tree QryP Kit Owned

theorem cells_new1 (w : World) (o : Obj) (l : List Value) (t : TypeId) (j : Nat) (u : Value) (h : l[j]? = some u) : ((w.alloc o).alloc (.cells l.toArray t)).cell? ((⟨w.heap.size + 1, 0, none⟩ : Addr).add j) = some u := by
  have := cells_new (w.alloc o) l t j u h
  rwa [World.size_alloc] at this
/-- A struct of ten cells written whole. -/
theorem set10_cell (W : World) (g : Nat) (v0 v1 v2 v3 v4 v5 v6 v7 v8 v9 : Value) (p : Addr) (hp : p.block ≠ g) : ((((((((((W.setCell ⟨g, 0, none⟩ v0).setCell ⟨g, 1, none⟩ v1).setCell ⟨g, 2, none⟩ v2).setCell ⟨g, 3, none⟩ v3).setCell ⟨g, 4, none⟩ v4).setCell ⟨g, 5, none⟩ v5).setCell ⟨g, 6, none⟩ v6).setCell ⟨g, 7, none⟩ v7).setCell ⟨g, 8, none⟩ v8).setCell ⟨g, 9, none⟩ v9).cell? p = W.cell? p := by
  have h : ∀ (V : World) (i : Nat) (v : Value), (V.setCell ⟨g, i, none⟩ v).cell? p = V.cell? p := fun V i v => World.cell?_setCell_other _ _ _ _ (by intro e; subst e; exact hp rfl)
  rw [h, h, h, h, h, h, h, h, h, h]
theorem set10_size (W : World) (g : Nat) (v0 v1 v2 v3 v4 v5 v6 v7 v8 v9 : Value) : ((((((((((W.setCell ⟨g, 0, none⟩ v0).setCell ⟨g, 1, none⟩ v1).setCell ⟨g, 2, none⟩ v2).setCell ⟨g, 3, none⟩ v3).setCell ⟨g, 4, none⟩ v4).setCell ⟨g, 5, none⟩ v5).setCell ⟨g, 6, none⟩ v6).setCell ⟨g, 7, none⟩ v7).setCell ⟨g, 8, none⟩ v8).setCell ⟨g, 9, none⟩ v9).heap.size = W.heap.size := by simp [World.setCell]
theorem set10_below {B : Nat} {w W : World} (h : Below B w W) (g : Nat) (hg : B ≤ g) (v0 v1 v2 v3 v4 v5 v6 v7 v8 v9 : Value) : Below B w ((((((((((W.setCell ⟨g, 0, none⟩ v0).setCell ⟨g, 1, none⟩ v1).setCell ⟨g, 2, none⟩ v2).setCell ⟨g, 3, none⟩ v3).setCell ⟨g, 4, none⟩ v4).setCell ⟨g, 5, none⟩ v5).setCell ⟨g, 6, none⟩ v6).setCell ⟨g, 7, none⟩ v7).setCell ⟨g, 8, none⟩ v8).setCell ⟨g, 9, none⟩ v9) :=
  ((((((((((h.setCell (p := ⟨g, 0, none⟩) hg v0).setCell (p := ⟨g, 1, none⟩) hg v1).setCell (p := ⟨g, 2, none⟩) hg v2).setCell (p := ⟨g, 3, none⟩) hg v3).setCell (p := ⟨g, 4, none⟩) hg v4).setCell (p := ⟨g, 5, none⟩) hg v5).setCell (p := ⟨g, 6, none⟩) hg v6).setCell (p := ⟨g, 7, none⟩) hg v7).setCell (p := ⟨g, 8, none⟩) hg v8).setCell (p := ⟨g, 9, none⟩) hg v9)
/-- A query that is lent: in memory that lay not there before. -/
def LentQ (q : QT) (w : World) (e : Ending) (w' : World) : Prop := ∃ us, e = .returned (.agg us.toArray) ∧ T.AtL lent w' (fun g => w.heap.size ≤ g ∧ g < w'.heap.size) (cells q) us ∧ Below w.heap.size w w'
theorem at_form' {sent : Nat → List (List Value)} {w : World} {S : Nat → Prop} {s n : Nat} {xs : List T} {v : Value} (h : T.At sent w S (.arr s n xs) v) : ∃ A cap, v = .slice A n cap := by
  simp only [T.At] at h
  obtain ⟨A, cap, _, hv, _⟩ := h
  exact ⟨A, cap, hv⟩
theorem cellsL_snoc (l : List QT) (q : QT) : cellsL (l ++ [q]) = cellsL l ++ cells q := by rw [cellsL_eq, cellsL_eq, List.flatMap_append]; simp
/-- What the loop of LentQuery knows: k kids are lent, in a row of its own, their parts beside it. -/
def LentK (W wr : World) (v : Value) (ks : List QT) (k : Nat) : Prop :=
  ∃ xs, wr.ownsRow W.heap.size 25 10 v k xs ∧ T.AtL lent wr (fun g => W.heap.size ≤ g ∧ g < wr.heap.size ∧ v.ownBlock ≠ some g) (cellsL (ks.take k)) xs ∧ Below W.heap.size W wr
theorem lentK_zero (W : World) (ks : List QT) : LentK W W (.slice none 0 0) ks 0 := ⟨[], World.ownsRow_nil _ _ _ _, by simp [cellsL, T.AtL], Below.refl _ _⟩
/-- One kid more: lent in w3, laid into a new block twice (the variable, the operand), and appended. -/
theorem lentK_step {W wr w3 w4 : World} {v v' : Value} {ks : List QT} {k : Nat} {us xs : List Value} {q : QT} {o1 o2 : Obj} (hk : k < ks.length) (hq : ks[k] = q)
    (hx : wr.ownsRow W.heap.size 25 10 v k xs) (ha : T.AtL lent wr (fun g => W.heap.size ≤ g ∧ g < wr.heap.size ∧ v.ownBlock ≠ some g) (cellsL (ks.take k)) xs) (hB : Below W.heap.size W wr)
    (hu : T.AtL lent w3 (fun g => wr.heap.size ≤ g ∧ g < w3.heap.size) (cells q) us) (hb : Below wr.heap.size wr w3)
    (ho : w4.ownsRow W.heap.size 25 10 v' (k + 1) (xs ++ us)) (hg : ((w3.alloc o1).alloc o2).grownBy w4 v.ownBlock) (hv : v'.ownBlock = v.ownBlock ∨ v'.ownBlock = some (w3.heap.size + 1 + 1)) : LentK W w4 v' ks (k + 1) := by
  have hlt : ∀ r, v.ownBlock = some r → r < wr.heap.size := fun r e => (hx.lt r e).2
  have hz3 := hb.size
  have hz4 := hg.size
  simp only [World.size_alloc] at hz4
  have hbl : ∀ p : Addr, p.block < w3.heap.size → v.ownBlock ≠ some p.block → w4.cell? p = w3.cell? p := fun p hp hne =>
    (World.cell?_of_block (hg.block p.block (by simp; omega) (fun e => hne e.symm))).trans ((World.cell?_alloc_lt _ _ _ (by simp; omega)).trans (World.cell?_alloc_lt _ _ _ hp))
  refine ⟨xs ++ us, ho, ?_, ?_⟩
  · rw [take_snoc hk, cellsL_snoc, hq]
    refine AtL.append (AtL.keep (fun p hp => ?_) (fun g hg' => ?_) ha) (AtL.keep (fun p hp => ?_) (fun g hg' => ?_) hu)
    · exact (hbl p (by omega) hp.2.2).trans (hb.cell hp.2.1)
    · refine ⟨hg'.1, by omega, ?_⟩
      rcases hv with hv | hv <;> rw [hv]
      · exact hg'.2.2
      · intro e; injection e with e; omega
    · exact hbl p hp.2 (fun e => by have := hlt _ e; omega)
    · refine ⟨by have := hB.size; omega, by omega, ?_⟩
      rcases hv with hv | hv <;> rw [hv]
      · intro e; have := hlt _ e; omega
      · intro e; injection e with e; omega
  · refine (((hB.trans (hb.mono hB.size)).alloc (by have := hB.size; omega) o1).alloc (by have := hB.size; simp; omega) o2).grown hg (by have := hB.size; simp; omega) (fun r e => (hx.lt r e).1)
/-- The row of the kids with the mark behind it. -/
theorem lentK_end {W wr w4 : World} {v : Value} {ks : List QT} {xs : List Value} {g cap : Nat} {o : Obj}
    (hx : wr.ownsRow W.heap.size 25 10 v ks.length xs) (ha : T.AtL lent wr (fun g => W.heap.size ≤ g ∧ g < wr.heap.size ∧ v.ownBlock ≠ some g) (cellsL (ks.take ks.length)) xs) (hB : Below W.heap.size W wr)
    (ho : w4.ownsRow W.heap.size 25 10 (.slice (some ⟨g, 0, none⟩) (ks.length + 1) cap) (ks.length + 1) (xs ++ markQ)) (hcap : ks.length + 1 ≤ cap) (hm : cap ≤ maxLen) (hg : (wr.alloc o).grownBy w4 v.ownBlock) :
    T.At lent w4 (fun g => W.heap.size ≤ g ∧ g < w4.heap.size) (.arr 10 ks.length (cellsL ks)) (.slice (some ⟨g, 0, none⟩) ks.length cap) ∧ Below W.heap.size W w4 := by
  have hz4 := hg.size
  simp only [World.size_alloc] at hz4
  have hlt := ho.lt g rfl
  refine ⟨?_, (hB.alloc hB.size o).grown hg (by have := hB.size; simp; omega) (fun r e => (hx.lt r e).1)⟩
  simp only [T.At]
  rw [List.take_length] at ha
  refine ⟨_, cap, xs, rfl, by rw [lent_ten]; simpa using hcap, hm, cellsL_len ks, fun _ => ⟨_, rfl, hlt, ?_⟩, AtL.keep (fun p hp => ?_) (fun g' hg' => ⟨hg'.1, by omega⟩) ha⟩
  · rw [lent_ten]
    exact ho.cells (g := g) rfl
  · exact (World.cell?_of_block (hg.block p.block (by simp; omega) (fun e => hp.2.2 e.symm))).trans (World.cell?_alloc_lt _ _ _ hp.2.1)

set_option maxRecDepth 100000 in
set_option maxHeartbeats 4000000 in
theorem lentQ_any : ∀ (n : Nat) (q : QT) (vs : List Value) (w : World), q.sz ≤ n → Ok q → T.AtL bare w (fun g => g < w.heap.size) (cells q) vs → Calls Tryd.prog 8 #[.agg vs.toArray] w (LentQ q w) := by
  intro n
  induction n with
  | zero => intro q vs w hs; have := q.sz_pos; omega
  | succ n ih =>
  intro q vs w hs hq hv
  cases hq with
  | @mk kd oc f t u lo hi b op ks hkd hoc hf ht hu' hlo hhi hb hop hks hk =>
  obtain ⟨vl, vh, vk, rfl, hvl, hvh, hvk⟩ := at_cells hv
  obtain ⟨A1, c1, rfl, _, _, r1⟩ := at_ints hvl
  obtain ⟨A2, c2, rfl, _, _, r2⟩ := at_ints hvh
  obtain ⟨AK, cK, rfl, _, hmK, eK⟩ := at_kids hvk
  have hLO : ∀ W, Below w.heap.size w W → Calls Tryd.prog 20 #[.slice A1 lo.length c1] W (LentT (intsT .i64 lo) W) := fun W hW => lent64_any _ _ _ W ((r1.below hW).more hW.size) hlo.1
  have hHI : ∀ W, Below w.heap.size w W → Calls Tryd.prog 20 #[.slice A2 hi.length c2] W (LentT (intsT .i64 hi) W) := fun W hW => lent64_any _ _ _ W ((r2.below hW).more hW.size) hhi.1
  have hIH : ∀ (i : Nat) (h : i < ks.length) (us : List Value) (W : World), T.AtL bare W (fun g => g < W.heap.size) (cells ks[i]) us → Calls Tryd.prog 8 #[.agg us.toArray] W (LentQ ks[i] W) := fun i h us W hW => by
    refine ih _ us W ?_ (hk _ (List.getElem_mem h)) hW
    have := QT.sz_kid (kd := kd) (oc := oc) (f := f) (t := t) (u := u) (lo := lo) (hi := hi) (b := b) (op := op) (List.getElem_mem h)
    omega
  have LO := Lib.hid hLO; have HI := Lib.hid hHI; have EK := Lib.hid eK; have IH := Lib.hid hIH
  obtain ⟨i0, hi0, hz0, hz1, hz2⟩ := info_parts infoQ
  have HI0 := Lib.hid hi0; have HZ0 := Lib.hid hz0; have HZ1 := Lib.hid hz1; have HZ2 := Lib.hid hz2
  clear ih hLO hHI hIH eK hk hv hvl hvh hvk r1 r2 hkd hoc hf ht hu' hlo hhi hb hop hs hi0 hz0 hz1 hz2
  go_enter Tryd.func8, Tryd.ntmps8
  go_wp2_with fail
  refine (LO.out _ (below2 _ _)).mono ?_
  rintro e w1 ⟨vl1, rfl, al1, b1⟩
  obtain ⟨L1, m1, rfl⟩ := at_form' al1
  have HB1 := Lib.hid ((below2 _ _).trans (b1.mono (by simp; omega)) : Below w.heap.size w w1)
  have BA1 := Lib.hid ((blk_a _ _ _ _ _).below b1 (by simp; omega))
  have BB1 := Lib.hid ((blk_b _ _ _ _ _).below b1 (by simp))
  have hz := b1.size
  simp only [World.size_alloc] at hz
  have AL1 : Hid (T.At lent w1 (fun g => w.heap.size + 2 ≤ g ∧ g < w1.heap.size) (intsT .i64 lo) (.slice L1 lo.length m1)) := Lib.hid (At.keep (fun _ _ => rfl) (fun g hg => by simpa using hg) al1)
  have c5 : w1.cell? ⟨w.heap.size, 5, none⟩ = some (.slice A1 lo.length c1) := BA1.out.cell 5
  have f5 : w1.frozen? ⟨w.heap.size, 5, none⟩ = false := BA1.out.frozen 5
  have c6 : w1.cell? ⟨w.heap.size, 6, none⟩ = some (.slice A2 hi.length c2) := BA1.out.cell 6
  clear al1 b1
  go_wp2_with fail
  have BA2 : Hid (Blk (w1.setCell ⟨w.heap.size, 5, none⟩ (.slice L1 lo.length m1)) w.heap.size 25 #[.int .i64 kd, .int .i64 oc, .string f, .string t, .string u, .slice L1 lo.length m1, .slice A2 hi.length c2, .int .i64 b, .int .i64 op, .slice AK ks.length cK]) := Lib.hid (BA1.out.set_ 5 _)
  have BB2 := Lib.hid (BB1.out.far (p := ⟨w.heap.size, 5, none⟩) (by simp) (.slice L1 lo.length m1))
  have HB2 : Hid (Below w.heap.size w (w1.setCell ⟨w.heap.size, 5, none⟩ (.slice L1 lo.length m1))) := Lib.hid (HB1.out.setCell (Nat.le_refl _) _)
  have AL2 : Hid (T.At lent (w1.setCell ⟨w.heap.size, 5, none⟩ (.slice L1 lo.length m1)) (fun g => w.heap.size + 2 ≤ g ∧ g < w1.heap.size) (intsT .i64 lo) (.slice L1 lo.length m1)) := Lib.hid (At.keep (fun p hp => World.cell?_setCell_other _ _ _ _ (by intro e; subst e; have := hp.1; simp at this; omega)) (fun _ h => h) AL1.out)
  have hs2 : (w1.setCell ⟨w.heap.size, 5, none⟩ (.slice L1 lo.length m1)).heap.size = w1.heap.size := by simp [World.setCell]
  have HS2 := Lib.hid hs2
  clear c5 f5 c6 AL1 BA1 BB1 HB1 hs2
  generalize w1.setCell ⟨w.heap.size, 5, none⟩ (.slice L1 lo.length m1) = wA at *
  refine (HI.out _ HB2.out).mono ?_
  rintro e w2 ⟨vh1, rfl, al2, b2⟩
  obtain ⟨L2, m2, rfl⟩ := at_form' al2
  have hz2 := b2.size
  rw [HS2.out] at hz2
  have BA3 := Lib.hid (BA2.out.below b2 BA2.out.lt)
  have BB3 := Lib.hid (BB2.out.below b2 BB2.out.lt)
  have HB3 := Lib.hid (HB2.out.trans (b2.mono HB2.out.size))
  have AL3 : Hid (T.At lent w2 (fun g => w.heap.size + 2 ≤ g ∧ g < w2.heap.size) (intsT .i64 lo) (.slice L1 lo.length m1)) := Lib.hid (At.keep (fun p hp => b2.cell (by rw [HS2.out]; exact hp.2)) (fun g h => ⟨h.1, by omega⟩) AL2.out)
  have AH3 : Hid (T.At lent w2 (fun g => w.heap.size + 2 ≤ g ∧ g < w2.heap.size) (intsT .i64 hi) (.slice L2 hi.length m2)) := Lib.hid (At.keep (fun _ _ => rfl) (fun g h => ⟨by have := h.1; rw [HS2.out] at this; omega, h.2⟩) al2)
  have c6 : w2.cell? ⟨w.heap.size, 6, none⟩ = some (.slice A2 hi.length c2) := BA3.out.cell 6
  have f6 : w2.frozen? ⟨w.heap.size, 6, none⟩ = false := BA3.out.frozen 6
  clear al2 b2 AL2 BA2 BB2 HB2 HS2
  go_wp2_with fail
  have BA4 : Hid (Blk (w2.setCell ⟨w.heap.size, 6, none⟩ (.slice L2 hi.length m2)) w.heap.size 25 #[.int .i64 kd, .int .i64 oc, .string f, .string t, .string u, .slice L1 lo.length m1, .slice L2 hi.length m2, .int .i64 b, .int .i64 op, .slice AK ks.length cK]) := Lib.hid (BA3.out.set_ 6 _)
  have BB4 := Lib.hid (BB3.out.far (p := ⟨w.heap.size, 6, none⟩) (by simp) (.slice L2 hi.length m2))
  have HB4 : Hid (Below w.heap.size w (w2.setCell ⟨w.heap.size, 6, none⟩ (.slice L2 hi.length m2))) := Lib.hid (HB3.out.setCell (Nat.le_refl _) _)
  have hs4 : (w2.setCell ⟨w.heap.size, 6, none⟩ (.slice L2 hi.length m2)).heap.size = w2.heap.size := by simp [World.setCell]
  have AL4 : Hid (T.At lent (w2.setCell ⟨w.heap.size, 6, none⟩ (.slice L2 hi.length m2)) (fun g => w.heap.size + 2 ≤ g ∧ g < (w2.setCell ⟨w.heap.size, 6, none⟩ (.slice L2 hi.length m2)).heap.size) (intsT .i64 lo) (.slice L1 lo.length m1)) := Lib.hid (At.keep (fun p hp => World.cell?_setCell_other _ _ _ _ (by intro e; subst e; have := hp.1; simp at this; omega)) (fun _ h => by rw [hs4]; exact h) AL3.out)
  have AH4 : Hid (T.At lent (w2.setCell ⟨w.heap.size, 6, none⟩ (.slice L2 hi.length m2)) (fun g => w.heap.size + 2 ≤ g ∧ g < (w2.setCell ⟨w.heap.size, 6, none⟩ (.slice L2 hi.length m2)).heap.size) (intsT .i64 hi) (.slice L2 hi.length m2)) := Lib.hid (At.keep (fun p hp => World.cell?_setCell_other _ _ _ _ (by intro e; subst e; have := hp.1; simp at this; omega)) (fun _ h => by rw [hs4]; exact h) AH3.out)
  have hzw : w.heap.size + 2 ≤ (w2.setCell ⟨w.heap.size, 6, none⟩ (.slice L2 hi.length m2)).heap.size := by omega
  clear c6 f6 AL3 AH3 BA3 BB3 HB3 hs4 hz2 hz
  generalize w2.setCell ⟨w.heap.size, 6, none⟩ (.slice L2 hi.length m2) = W at *
  go_loopw [3, 4] (fun v i wr => ∃ k : Nat, k ≤ ks.length ∧ i = .int .i64 k ∧ Hid (LentK W wr v ks k)) (fun _ i _ => ks.length - (intOf i).toNat)
  case atStart => exact ⟨0, by omega, rfl, Lib.hid (lentK_zero W ks)⟩
  case round =>
    obtain ⟨k, hkk, rfl, HK⟩ := hrel
    have HKB : Hid (Below W.heap.size W wr) := Lib.hid (by obtain ⟨_, _, _, h⟩ := HK.out; exact h)
    have BW := Lib.hid (BA4.out.below HKB.out (by omega))
    have BV := Lib.hid (BB4.out.below HKB.out (by omega))
    have hzr := HKB.out.size
    have c9 : wr.cell? ⟨w.heap.size, 9, none⟩ = some (.slice AK ks.length cK) := BW.out.cell 9
    by_cases hlt : k < ks.length
    · obtain ⟨ad, us, rfl, hba, au, lu, cu⟩ := EK.out k hlt
      have HWR : Hid (Below w.heap.size w wr) := Lib.hid (HB4.out.trans (HKB.out.mono HB4.out.size))
      replace cu := cu.keep (w' := wr) (fun p hp => HWR.out.cell (by rw [hp, block_of_add]; exact hba))
      have HC : Hid (Calls Tryd.prog 8 #[.agg us.toArray] wr (LentQ ks[k] wr)) := Lib.hid (IH.out k hlt us wr (AtL.below au HWR.out (fun g hg => Nat.lt_of_lt_of_le hg HWR.out.size)))
      have HQ : Hid (∃ q, ks[k] = q) := Lib.hid ⟨_, rfl⟩
      have hab : (ad.add (k * 10)).block < wr.heap.size := by rw [block_of_add]; omega
      obtain ⟨q, hq⟩ := HQ.out
      rw [hq] at au
      have HC2 : Hid (Calls Tryd.prog 8 #[.agg us.toArray] wr (LentQ q wr)) := Lib.hid (by rw [← hq]; exact HC.out)
      have HQK := Lib.hid hq
      clear hq HQ HC
      obtain ⟨k1, o1, f1, t1, u1, l1, h1, b1, p1, e1⟩ := q
      obtain ⟨x5, x6, x9, rfl, g5, g6, g9⟩ := at_cells au
      obtain ⟨X5, z5, rfl⟩ := at_form' g5
      obtain ⟨X6, z6, rfl⟩ := at_form' g6
      obtain ⟨X9, z9, rfl⟩ := at_form' g9
      obtain ⟨a0, a1, a2, a3, a4, a5, a6, a7, a8, a9⟩ := ten cu
      clear cu au lu g5 g6 g9
      go_wp2_with fail
      refine HC2.out.mono ?_
      rintro e w3 ⟨us', rfl, au', bu⟩
      have HU := Lib.hid au'
      obtain ⟨y5, y6, y9, rfl, g5, g6, g9⟩ := at_cells au'
      obtain ⟨Y5, z5', rfl⟩ := at_form' g5
      obtain ⟨Y6, z6', rfl⟩ := at_form' g6
      obtain ⟨Y9, z9', rfl⟩ := at_form' g9
      have HBU := Lib.hid bu
      have hz3 := bu.size
      have c9' : w3.cell? ⟨w.heap.size, 9, none⟩ = some (.slice (some ad) ks.length cK) := (BW.out.below bu BW.out.lt).cell 9
      obtain ⟨xs, hx, ha, hB⟩ := HK.out
      have hown := own_below hx bu
      have HX := Lib.hid hx; have HA := Lib.hid ha
      have HI1 := HI0.out; have HI2 := HZ0.out; have HI3 := HZ1.out; have HI4 := HZ2.out
      clear a0 a1 a2 a3 a4 a5 a6 a7 a8 a9 c9 g5 g6 g9 au' bu hx ha hB
      go_wp2_with (at_builtin; refine wpList_append_any _ rfl (.tmp 27) (.tmp 29) 23 rfl W.heap.size 25 i0 _ 10 152 Tryd.underlying23 HI1 HI2 HI3 HI4 rfl (by decide) _ k xs rfl ((hown.alloc _).alloc _) (w3.heap.size + 1 + 1) (some ⟨w3.heap.size + 1, 0, none⟩) 1 1 [.int .i64 k1, .int .i64 o1, .string f1, .string t1, .string u1, .slice Y5 l1.length z5', .slice Y6 h1.length z6', .int .i64 b1, .int .i64 p1, .slice Y9 e1.length z9'] rfl ?d1 ?d2 ?d3 ?d4 ?d5 ?_)
      case d1 => exact ⟨rfl, fun _ => ⟨_, rfl, Nat.lt_succ_self _, fun j u hu => cells_new1 w3 _ _ _ j u hu⟩⟩
      case d2 => intro u hu; simp only [List.mem_cons, List.not_mem_nil, or_false] at hu; rcases hu with rfl | rfl | rfl | rfl | rfl | rfl | rfl | rfl | rfl | rfl <;> rfl
      case d3 => unfold maxLen; omega
      case d4 => omega
      case d5 => simp; omega
      intro v' w4 ho hg hv
      have HST : Hid (LentK W w4 v' ks (k + 1)) := Lib.hid (lentK_step hlt HQK.out HX.out HA.out HKB.out HU.out HBU.out ho hg hv)
      clear ho hg hv hown HI1 HI2 HI3 HI4 c9'
      go_wp2_with fail
      go_roundw
      case rel => exact ⟨k + 1, by omega, by go_num, HST⟩
      case measure => simp [intOf]; omega
    · obtain rfl : k = ks.length := by omega
      obtain ⟨xs, hx, ha, hB⟩ := HK.out
      have HX := Lib.hid hx; have HA := Lib.hid ha
      have HI1 := HI0.out; have HI2 := HZ0.out; have HI3 := HZ1.out; have HI4 := HZ2.out
      clear ha hB
      go_wp2_with (at_builtin; refine wpList_append_own _ rfl (.tmp 31) (.tmp 33) 23 rfl W.heap.size 25 i0 _ 10 152 Tryd.underlying23 HI1 HI2 HI3 HI4 rfl (by decide) _ ks.length xs rfl (hx.alloc _) ⟨wr.heap.size, 0, none⟩ 1 1 markQ rfl rfl ?d6 ?d7 ?d8 ?d9 ?d10 ?_)
      case d6 => intro j u hu; exact cells_new wr markQ _ j u hu
      case d7 => intro u hu; simp only [markQ, List.mem_cons, List.not_mem_nil, or_false] at hu; rcases hu with rfl | rfl | rfl | rfl | rfl | rfl | rfl | rfl | rfl | rfl <;> rfl
      case d8 => unfold maxLen; omega
      case d9 => omega
      case d10 => simp; omega
      intro v' w4 ho hg _
      rcases ho.2 with ⟨_, h0⟩ | ⟨g, cap, cur, rfl, hB', hgg, hn, hm, hcs, ht⟩
      · omega
      have HE := Lib.hid (lentK_end HX.out HA.out HKB.out ho hn hm hg)
      have hne : ∀ b, b < W.heap.size → some b ≠ u3.ownBlock := fun b hb e => by have := (HX.out.lt b e.symm).1; omega
      have BX := Lib.hid ((BW.out.alloc (.cells #[.int .i64 (-71), .int .i64 0, .string ⟨#[]⟩, .string ⟨#[]⟩, .string ⟨#[]⟩, .slice none 0 0, .slice none 0 0, .int .i64 0, .int .i64 0, .slice none 0 0] 25)).grown hg (hne _ (by omega)))
      have BY := Lib.hid ((BV.out.alloc (.cells #[.int .i64 (-71), .int .i64 0, .string ⟨#[]⟩, .string ⟨#[]⟩, .string ⟨#[]⟩, .slice none 0 0, .slice none 0 0, .int .i64 0, .int .i64 0, .slice none 0 0] 25)).grown hg (hne _ (by omega)))
      have c9' : w4.cell? ⟨w.heap.size, 9, none⟩ = some (.slice AK ks.length cK) := BX.out.cell 9
      have f9 : w4.frozen? ⟨w.heap.size, 9, none⟩ = false := BX.out.frozen 9
      have hm' := hm
      unfold maxLen at hm'
      clear ho hg hgg hcs ht hx HI1 HI2 HI3 HI4 hB' hm c9 hne
      go_upto_region 11 with fail
      have BX2 : Hid (Blk (w4.setCell ⟨w.heap.size, 9, none⟩ (.slice (some ⟨g, 0, none⟩) ks.length cap)) w.heap.size 25 #[.int .i64 kd, .int .i64 oc, .string f, .string t, .string u, .slice L1 lo.length m1, .slice L2 hi.length m2, .int .i64 b, .int .i64 op, .slice (some ⟨g, 0, none⟩) ks.length cap]) := Lib.hid (BX.out.set_ 9 _)
      have BY2 := Lib.hid (BY.out.far (p := ⟨w.heap.size, 9, none⟩) (by simp) (.slice (some ⟨g, 0, none⟩) ks.length cap))
      have HA2 : Hid (T.At lent (w4.setCell ⟨w.heap.size, 9, none⟩ (.slice (some ⟨g, 0, none⟩) ks.length cap)) (fun r => w.heap.size + 2 ≤ r ∧ r < w4.heap.size) (.arr 10 ks.length (cellsL ks)) (.slice (some ⟨g, 0, none⟩) ks.length cap)) :=
        Lib.hid (At.keep (fun p hp => World.cell?_setCell_other _ _ _ _ (by intro e; subst e; have := hp.1; simp at this; omega)) (fun r h => ⟨by omega, h.2⟩) HE.out.1)
      have hlt4 := HE.out.2.size
      have AL5 : Hid (T.At lent (w4.setCell ⟨w.heap.size, 9, none⟩ (.slice (some ⟨g, 0, none⟩) ks.length cap)) (fun r => w.heap.size + 2 ≤ r ∧ r < w4.heap.size) (intsT .i64 lo) (.slice L1 lo.length m1)) :=
        Lib.hid (At.keep (fun p hp => (World.cell?_setCell_other _ _ _ _ (by intro e; subst e; have := hp.1; simp at this; omega)).trans (HE.out.2.cell hp.2)) (fun r h => ⟨h.1, by omega⟩) AL4.out)
      have AH5 : Hid (T.At lent (w4.setCell ⟨w.heap.size, 9, none⟩ (.slice (some ⟨g, 0, none⟩) ks.length cap)) (fun r => w.heap.size + 2 ≤ r ∧ r < w4.heap.size) (intsT .i64 hi) (.slice L2 hi.length m2)) :=
        Lib.hid (At.keep (fun p hp => (World.cell?_setCell_other _ _ _ _ (by intro e; subst e; have := hp.1; simp at this; omega)).trans (HE.out.2.cell hp.2)) (fun r h => ⟨h.1, by omega⟩) AH4.out)
      have HB5 : Hid (Below w.heap.size w (w4.setCell ⟨w.heap.size, 9, none⟩ (.slice (some ⟨g, 0, none⟩) ks.length cap))) := Lib.hid ((HB4.out.trans (HE.out.2.mono HB4.out.size)).setCell (Nat.le_refl _) _)
      have hs5 : (w4.setCell ⟨w.heap.size, 9, none⟩ (.slice (some ⟨g, 0, none⟩) ks.length cap)).heap.size = w4.heap.size := by simp [World.setCell]
      rw [← hs5] at HA2 AL5 AH5
      clear hs5 c9' f9 BX BY HE BA4 BB4 HB4 AL4 AH4 HKB BW BV HX HA hlt4 hzr hzw
      generalize w4.setCell ⟨w.heap.size, 9, none⟩ (.slice (some ⟨g, 0, none⟩) ks.length cap) = W5 at *
      obtain ⟨p0, p1, p2, p3, p4, p5, p6, p7, p8, p9⟩ := blk10 BX2.out
      obtain ⟨q0, q1, q2, q3, q4, q5, q6, q7, q8, q9⟩ := blk10 BY2.out
      have z0 := BY2.out.frozen 0
      have z1 := BY2.out.frozen 1
      have z2 := BY2.out.frozen 2
      have z3 := BY2.out.frozen 3
      have z4 := BY2.out.frozen 4
      have z5 := BY2.out.frozen 5
      have z6 := BY2.out.frozen 6
      have z7 := BY2.out.frozen 7
      have z8 := BY2.out.frozen 8
      have z9 := BY2.out.frozen 9
      go_wp2_with fail
      refine bodyPost_ret (v := .agg #[.int .i64 kd, .int .i64 oc, .string f, .string t, .string u, .slice L1 lo.length m1, .slice L2 hi.length m2, .int .i64 b, .int .i64 op, .slice (some ⟨g, 0, none⟩) ks.length cap]) (by simp [results, Tryd.results8, go_sem, q0, q1, q2, q3, q4, q5, q6, q7, q8, q9]) rfl ⟨_, rfl, ?_, set10_below HB5.out _ (by omega) _ _ _ _ _ _ _ _ _ _⟩
      refine cells_mk (At.keep (fun p hp => set10_cell _ _ _ _ _ _ _ _ _ _ _ _ p (by have := hp.1; omega)) (fun r hr => ?_) AL5.out) (At.keep (fun p hp => set10_cell _ _ _ _ _ _ _ _ _ _ _ _ p (by have := hp.1; omega)) (fun r hr => ?_) AH5.out) (At.keep (fun p hp => set10_cell _ _ _ _ _ _ _ _ _ _ _ _ p (by have := hp.1; omega)) (fun r hr => ?_) HA2.out)
      all_goals
        rw [set10_size]
        exact ⟨by omega, hr.2⟩
end Go.Proofs.YtinmiekbhoemjaaDoor.Qry
