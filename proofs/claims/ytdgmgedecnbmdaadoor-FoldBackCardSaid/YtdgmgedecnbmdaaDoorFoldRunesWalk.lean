/- The walk of the law FoldRunes. -/
import Derived.Test.YtdgmgedecnbmdaaDoorFoldTextsWalk
import Derived.Test.YtdgmgedecnbmdaaDoorFoldRefRunes
namespace Go.Proofs.YtdgmgedecnbmdaaDoor.FoldLaws
open Go.RowKit Go.Lib FoldP FoldInts Kit FoldForms FoldNext FoldIter FoldValid FoldRefRunes Words Owned

attribute [local go_sem] Oper.semAt_some

theorem some_next {l : List UInt8} {pre : List (RuneOf l)} {e : Nat × Int} {rest : List (Nat × Int)} {x : RuneOf l} (h : pre.map (·.1) ++ e :: rest = runesL l) (hx : x.1 = e) : someR l (pre ++ [x]) :=
  ⟨rest, by simp only [List.map_append, List.map_cons, List.map_nil, List.append_assoc, List.cons_append, List.nil_append]; rw [hx]; exact h⟩
theorem some_not {l : List UInt8} {pre : List (RuneOf l)} {e : Nat × Int} {rest : List (Nat × Int)} {x : RuneOf l} (h : pre.map (·.1) ++ e :: rest = runesL l) (hx : x.1 ≠ e) : ¬ someR l (pre ++ [x]) := by
  rintro ⟨rest2, h2⟩
  have h3 := h2.trans h.symm
  simp only [List.map_append, List.map_cons, List.map_nil, List.append_assoc, List.cons_append, List.nil_append] at h3
  have h4 := List.append_cancel_left h3
  exact hx (List.cons.inj h4).1
theorem boxed_far {W : World} {B : Nat} {t : TypeId} {v : Value} (h : Boxed W B t v) {p : Addr} (hp : B ≠ p.block) (u : Value) : Boxed (W.setCell p u) B t v := (Below.heap_setCell W p u B hp).trans h
theorem boxed_set {W : World} {B : Nat} {t : TypeId} {v : Value} (h : Boxed W B t v) (u : Value) : Boxed (W.setCell ⟨B, 0, none⟩ u) B t u := by
  unfold Boxed at *
  simp [World.setCell, Array.getElem?_modify, h]

set_option maxRecDepth 100000 in
set_option maxHeartbeats 2000000 in
theorem foldRunes_in (s : ByteArray) (at_ : Int) (w : World) (hs : s.size ≤ 1048576) (hT : Tabs w) :
    CallsIn Fence.wide 6 Tryd.prog 3 #[.string s, .int .i64 at_] w (TrueBelow w) := by
  have HT := Lib.hid hT; clear hT
  refine callsIn_of_wp_marks Tryd.func3 rfl trivial ?_ rfl
  simp only [Tryd.ntmps3, List.size_toArray, List.length_cons, List.length_nil, Nat.reduceAdd, Nat.reduceSub, Array.replicate_succ, Array.replicate_zero, List.push_toArray, List.append_toArray, List.nil_append, List.cons_append]
  gi_wp2_with fail
  refine ⟨trivial, ?_⟩
  refine (callsIn_wide.2 (next_any s at_ _ (by unfold maxLen; omega) (HT.out.next ((Below.refl _ _).alloc (Nat.le_refl _) _)))).mono ?_
  rintro e w1 ⟨rfl, hb⟩
  have HB1 : Hid (Below w.heap.size w w1) := Lib.hid (((Below.refl _ _).alloc (Nat.le_refl _) _).trans (hb.mono (by simp)))
  have hr1 : w1.heap[w.heap.size]? = some (.cells #[.bool false] 4 (0, 0)) := by
    rw [hb.block w.heap.size (by simp)]; exact heap_alloc_new w _
  have hs1 : w.heap.size < w1.heap.size := by have := hb.size; simp at this; omega
  have HR1 := Lib.hid hr1
  clear hb hr1
  gi_wp2_with fail
  refine ⟨trivial, ?_⟩
  refine (callsIn_wide.2 (refNext_any s at_ w1 (by unfold maxLen; omega))).mono ?_
  rintro e w2 ⟨rfl, hb2⟩
  have HB2 := Lib.hid hb2; clear hb2
  gi_wp2_with fail
  refine ⟨trivial, ?_⟩
  refine (callsIn_wide.2 (valid_any s w2 (by omega) (HT.out.next (HB1.out.trans (HB2.out.mono (by omega)))))).mono ?_
  rintro e w3 ⟨rfl, hb3⟩
  have HB3 := Lib.hid hb3; clear hb3
  gi_wp2_with fail
  refine ⟨trivial, ?_⟩
  refine (callsIn_wide.2 (refValid_any s w3 (by omega))).mono ?_
  rintro e w4 ⟨rfl, hb4⟩
  have HB4 := Lib.hid hb4; clear hb4
  gi_wp2_with fail
  refine ⟨trivial, ?_⟩
  refine (callsIn_wide.2 (refRunes_any s w4 (by omega))).mono ?_
  rintro e w5 ⟨v1, v2, rfl, hown1, hown2, hb5⟩
  have HB5 := Lib.hid hb5
  have hrr : w5.heap[w.heap.size]? = some (.cells #[.bool false] 4 (0, 0)) :=
    (hb5.block _ (Nat.lt_of_lt_of_le hs1 (Nat.le_trans HB2.out.size (Nat.le_trans HB3.out.size HB4.out.size)))).trans ((HB4.out.block _ (Nat.lt_of_lt_of_le hs1 (Nat.le_trans HB2.out.size HB3.out.size))).trans ((HB3.out.block _ (Nat.lt_of_lt_of_le hs1 HB2.out.size)).trans ((HB2.out.block _ hs1).trans HR1.out)))
  have hbw5 : Below w.heap.size w w5 := ((((HB1.out.trans (HB2.out.mono (by omega))).trans (HB3.out.mono (Nat.le_trans (by omega) HB2.out.size))).trans (HB4.out.mono (Nat.le_trans (by omega) (Nat.le_trans HB2.out.size HB3.out.size)))).trans (hb5.mono (Nat.le_trans (by omega) (Nat.le_trans HB2.out.size (Nat.le_trans HB3.out.size HB4.out.size)))))
  clear hb5
  obtain ⟨a1, c1, rfl⟩ := own_slice hown1
  obtain ⟨a2, c2, rfl⟩ := own_slice hown2
  have HO1 := Lib.hid hown1; clear hown1
  have HO2 := Lib.hid hown2; clear hown2
  have HRR := Lib.hid hrr; clear hrr
  have HBW5 := Lib.hid hbw5; clear hbw5
  gi_wp2_with fail
  refine ⟨trivial, ?_⟩
  refine (runes_in _ _ _).mono ?_
  rintro e w' ⟨rfl, rfl⟩
  gi_wp2_with fail
  have hlt12 : ∀ B, B < w5.heap.size → ∀ o1 o2 o3 o4 : Obj, ((((w5.alloc o1).alloc o2).alloc o3).alloc o4).heap[B]? = w5.heap[B]? := fun B hB o1 o2 o3 o4 => by
    rw [Below.heap_alloc _ _ _ (by simp; omega), Below.heap_alloc _ _ _ (by simp; omega), Below.heap_alloc _ _ _ (by simp; omega), Below.heap_alloc _ _ _ hB]
  have x0 : Boxed ((((w5.alloc (.cells #[.slice a1 (runesL s.data.toList).length c1] 25)).alloc (.cells #[.slice a2 (runesL s.data.toList).length c2] 26)).alloc (.cells #[.int .i64 0] 3)).alloc (.cells #[.string s] 9)) w.heap.size 4 (.bool false) := by
    unfold Boxed; rw [hlt12 _ (Nat.lt_of_lt_of_le hs1 (Nat.le_trans HB2.out.size (Nat.le_trans HB3.out.size (Nat.le_trans HB4.out.size HB5.out.size))))]; exact HRR.out
  have x1 := (((Boxed.new w5 25 (.slice a1 (runesL s.data.toList).length c1)).alloc (.cells #[.slice a2 (runesL s.data.toList).length c2] 26)).alloc (.cells #[.int .i64 0] 3)).alloc (.cells #[.string s] 9)
  have x2 := ((Boxed.new (w5.alloc (.cells #[.slice a1 (runesL s.data.toList).length c1] 25)) 26 (.slice a2 (runesL s.data.toList).length c2)).alloc (.cells #[.int .i64 0] 3)).alloc (.cells #[.string s] 9)
  have x3 := (Boxed.new ((w5.alloc (.cells #[.slice a1 (runesL s.data.toList).length c1] 25)).alloc (.cells #[.slice a2 (runesL s.data.toList).length c2] 26)) 3 (.int .i64 0)).alloc (.cells #[.string s] 9)
  have x4 := Boxed.new (((w5.alloc (.cells #[.slice a1 (runesL s.data.toList).length c1] 25)).alloc (.cells #[.slice a2 (runesL s.data.toList).length c2] 26)).alloc (.cells #[.int .i64 0] 3)) 9 (.string s)
  have o1 := (((HO1.out.alloc (.cells #[.slice a1 (runesL s.data.toList).length c1] 25)).alloc (.cells #[.slice a2 (runesL s.data.toList).length c2] 26)).alloc (.cells #[.int .i64 0] 3)).alloc (.cells #[.string s] 9)
  have o2 := (((HO2.out.alloc (.cells #[.slice a1 (runesL s.data.toList).length c1] 25)).alloc (.cells #[.slice a2 (runesL s.data.toList).length c2] 26)).alloc (.cells #[.int .i64 0] 3)).alloc (.cells #[.string s] 9)
  have hsz : ((((w5.alloc (.cells #[.slice a1 (runesL s.data.toList).length c1] 25)).alloc (.cells #[.slice a2 (runesL s.data.toList).length c2] 26)).alloc (.cells #[.int .i64 0] 3)).alloc (.cells #[.string s] 9)).heap.size = w5.heap.size + 4 := by simp
  have hb0 : Below w.heap.size w ((((w5.alloc (.cells #[.slice a1 (runesL s.data.toList).length c1] 25)).alloc (.cells #[.slice a2 (runesL s.data.toList).length c2] 26)).alloc (.cells #[.int .i64 0] 3)).alloc (.cells #[.string s] 9)) := by
    have := HBW5.out.size
    exact (((HBW5.out.alloc this _).alloc (by simp; omega) _).alloc (by simp; omega) _).alloc (by simp; omega) _
  have hw0 : ∃ W0, ((((w5.alloc (.cells #[.slice a1 (runesL s.data.toList).length c1] 25)).alloc (.cells #[.slice a2 (runesL s.data.toList).length c2] 26)).alloc (.cells #[.int .i64 0] 3)).alloc (.cells #[.string s] 9)) = W0 := ⟨_, rfl⟩
  clear hlt12
  simp only [World.size_alloc] at x1 x2 x3 x4
  obtain ⟨W0, hW0⟩ := hw0
  rw [hW0] at x0 x1 x2 x3 x4 o1 o2 hsz hb0 ⊢
  have hT0 : Tabs W0 := HT.out.next hb0
  have h2 : 2 ≤ w.heap.size := HT.out.2
  have h5 : w.heap.size < w5.heap.size := Nat.lt_of_lt_of_le hs1 (Nat.le_trans HB2.out.size (Nat.le_trans HB3.out.size (Nat.le_trans HB4.out.size HB5.out.size)))
  clear hW0
  refine' wpIn_rangeFunc_ownF rfl (by omega) (gf := 27) (lb := #[.pointer (some ⟨w5.heap.size + 1 + 1 + 1, 0, none⟩)]) rfl trivial (enters_of Tryd.func27 (by kernel_rfl) rfl)
    (runes_stops (w5.heap.size + 1 + 1 + 1) s (by omega) W0 x4 hT0) KpR.trans (kpR_b (by omega) (by omega)) (Below.refl _ _) (fun _ => rfl)
    (fun pre W => someR s.data.toList pre ∧ Boxed W w.heap.size 4 (.bool false) ∧ Boxed W w5.heap.size 25 (.slice a1 (runesL s.data.toList).length c1) ∧ Boxed W (w5.heap.size + 1) 26 (.slice a2 (runesL s.data.toList).length c2) ∧
      Boxed W (w5.heap.size + 1 + 1) 3 (.int .i64 (pre.length : Int)) ∧ W.ownsRow w4.heap.size 3 1 (.slice a1 (runesL s.data.toList).length c1) (runesL s.data.toList).length ((runesL s.data.toList).map cellP) ∧
      W.ownsRow w4.heap.size 21 1 (.slice a2 (runesL s.data.toList).length c2) (runesL s.data.toList).length ((runesL s.data.toList).map cellR) ∧ Below w.heap.size w W)
    (fun c pre W => ¬ someR s.data.toList pre)
    (fun pre A B row hI hg hr => ⟨hI.1, hI.2.1.kept hg (fun e => by have := (hr _ e.symm).1; omega), hI.2.2.1.kept hg (fun e => by have := (hr _ e.symm).1; omega), hI.2.2.2.1.kept hg (fun e => by have := (hr _ e.symm).1; omega), hI.2.2.2.2.1.kept hg (fun e => by have := (hr _ e.symm).1; omega),
      own_cells_kept hI.2.2.2.2.2.1 hg (fun r e => by obtain ⟨_, o, ho, hc⟩ := hr r e; exact ⟨o, ho, fun c t fz e => by subst e; cases hc⟩),
      own_cells_kept hI.2.2.2.2.2.2.1 hg (fun r e => by obtain ⟨_, o, ho, hc⟩ := hr r e; exact ⟨o, ho, fun c t fz e => by subst e; cases hc⟩),
      hI.2.2.2.2.2.2.2.grown hg hI.2.2.2.2.2.2.2.size (fun k e => by have := (hr k e).1; omega)⟩)
    (fun c pre A B row hI _ _ => hI)
    ⟨⟨_, rfl⟩, x0, x1, x2, x3, o1, o2, hb0⟩
    _ ?assign ?body ?done ?stop
  case assign =>
    intro l x W K hK
    dsimp only [encR]
    gi_wp2
    exact hK
  case body =>
    rintro l0 pre x W ⟨hpre, hx0, hx1, hx2, hx3, ho1, ho2, hB⟩ hlt
    obtain ⟨rest, hrest⟩ := hpre
    cases rest with
    | nil => rw [← hrest] at hlt; simp at hlt
    | cons e rest =>
    have hn1 : (runesL s.data.toList).length ≤ 1048576 := by have := runesL_length s.data.toList; simp at this; omega
    obtain ⟨g1, rfl, hg1, _, hc1⟩ := own_cell ho1 hlt
    obtain ⟨g2, rfl, hg2, _, hc2⟩ := own_cell ho2 hlt
    have hd1 : W.cell? ⟨g1, pre.length, none⟩ = some (.int .i64 (e.1 : Int)) := hc1 pre.length _ (by rw [← hrest]; simp [cellP])
    have hd2 : W.cell? ⟨g2, pre.length, none⟩ = some (.int .i32 e.2) := hc2 pre.length _ (by rw [← hrest]; simp [cellR])
    have k0 := hx0.cell
    have k0f := hx0.frozen
    have k1 := hx1.cell
    have k2 := hx2.cell
    have k3 := hx3.cell
    have k3f := hx3.frozen
    have HO1' := Lib.hid ho1; clear ho1
    have HO2' := Lib.hid ho2; clear ho2
    have HREST := Lib.hid hrest; clear hrest
    clear hc1 hc2
    obtain ⟨⟨p, r⟩, hmem⟩ := x
    dsimp only
    have hge : ¬ ((runesL s.data.toList).length ≤ pre.length) := by omega
    have hge2 : decide ((runesL s.data.toList).length ≤ pre.length) = false := by simp; omega
    by_cases hp : p = e.1
    · by_cases hr : r = e.2
      · have hpb : ((p : Int) != (e.1 : Int)) = false := by rw [hp]; simp
        have hrb : (r != e.2) = false := by rw [hr]; simp
        have HP := Lib.hid hp; clear hp
        have HR := Lib.hid hr; clear hr
        have hg1' := (HO1.out.lt g1 rfl).2
        have hg2' := (HO2.out.lt g2 rfl).2
        gi_wp2_with fail
        refine ⟨KeepsOthers.setCell _ _ _, ⟨(Below.refl _ _).setCell (by show 2 ≤ w5.heap.size + 1 + 1; omega) _, Below.heap_setCell _ _ _ _ (by show w5.heap.size + 1 + 1 + 1 ≠ w5.heap.size + 1 + 1; omega)⟩, some_next HREST.out (Prod.ext HP.out HR.out), boxed_far hx0 (by show w.heap.size ≠ w5.heap.size + 1 + 1; omega) _, boxed_far hx1 (by show w5.heap.size ≠ w5.heap.size + 1 + 1; omega) _,
          boxed_far hx2 (by show w5.heap.size + 1 ≠ w5.heap.size + 1 + 1; omega) _, ?_, own_setCell_ne HO1'.out (by simp [Value.ownBlock]; omega) _, own_setCell_ne HO2'.out (by simp [Value.ownBlock]; omega) _, hB.setCell (by show w.heap.size ≤ w5.heap.size + 1 + 1; omega) _⟩
        have := boxed_set hx3 (.int .i64 ((pre.length : Int) + 1))
        rw [show ((pre.length : Int) + 1) = (((pre ++ [(⟨(p, r), hmem⟩ : RuneOf s.data.toList)]).length : Nat) : Int) from by simp] at this
        simpa using this
      · have hpb : ((p : Int) != (e.1 : Int)) = false := by rw [hp]; simp
        have hrb : (r != e.2) = true := by rw [bne_iff_ne]; exact hr
        have HR := Lib.hid hr; clear hr
        clear hp
        gi_wp2_with fail
        exact ⟨KeepsOthers.setCell _ _ _, some_not HREST.out (fun e1 => HR.out (congrArg Prod.snd e1))⟩
    · have hpb : ((p : Int) != (e.1 : Int)) = true := by rw [bne_iff_ne]; omega
      have HP := Lib.hid hp; clear hp
      gi_wp2_with fail
      exact ⟨KeepsOthers.setCell _ _ _, some_not HREST.out (fun e1 => HP.out (congrArg Prod.fst e1))⟩
  case done =>
    rintro D ys W hD hall ⟨hpre, hx0, hx1, hx2, hx3, ho1, ho2, hB⟩ hK
    have hyl : ys.length = (runesL s.data.toList).length := by rw [← (show ys.map (·.1) = _ from hall), List.length_map]
    rw [hyl] at hx3
    have k0 := hx0.cell
    have k0f := hx0.frozen
    have k1 := hx1.cell
    have k3 := hx3.cell
    clear hpre hall hyl
    gi_wp2_with fail
    have hK' := (KeepsOthers.setCell W ⟨w.heap.size, 0, none⟩ (.bool true)).same D _ hK rfl
    refine ⟨by simp, .inl ⟨_, _, rfl, run_takeDeferred hK', ?_⟩⟩
    have hc5 := cell_kept (World.cell?_setCell_same' W ⟨w.heap.size, 0, none⟩ (.bool true) (by rw [k0]; rfl)) (grownBy_putObj' _ D (.deferred none)) (fun r e => by cases e; exact ⟨_, hK', rfl⟩)
    refine ⟨.bool true, ?_, rfl, (hB.setCell (p := ⟨w.heap.size, 0, none⟩) (Nat.le_refl _) _).trans (belowK_b (w := w) (Nat.le_refl _) _ D _ _ (by omega) hK' rfl rfl)⟩
    simp [results, Tryd.f3, go_sem, hc5]
  case stop =>
    rintro D c pre W hD hp h _
    exact (h hp).elim
theorem foldRunes_walk (s : ByteArray) (at_ : Int) (_h : (Lit.int .i64 at_).wf = true) (w : World) (hs : s.size ≤ 1048576) (hT : Tabs w) :
    Calls Tryd.prog 3 #[.string s, .int .i64 at_] w (TrueBelow w) := callsIn_wide.1 (foldRunes_in s at_ w hs hT)
end Go.Proofs.YtdgmgedecnbmdaaDoor.FoldLaws
