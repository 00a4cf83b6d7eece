/- The walk of the law FoldEarly. -/
import Derived.Test.YtdgmgedecnbmdaaDoorFoldKnown
import Derived.Test.YtdgmgedecnbmdaaDoorFoldRunesWalk
import Derived.OwnWalkIn
namespace Go.Proofs.YtdgmgedecnbmdaaDoor.FoldLaws
open Go.RowKit Go.Lib FoldP FoldInts Kit FoldForms FoldNext FoldIter FoldValid FoldRefRunes Words Owned

attribute [local go_sem] Oper.semAt_some

theorem keepsOthers_grown {W W' : World} {row : Option Nat} (h : W.grownBy W' row) (hr : ∀ r, row = some r → ∃ o : Obj, W.heap[r]? = some o ∧ o.isCells = true) : KeepsOthers W W' :=
  ⟨h.size, fun k o hk ho => (h.block k (Array.getElem?_eq_some_iff.1 hk).1 (fun e => by obtain ⟨o2, h2, h3⟩ := hr k e.symm; rw [hk] at h2; cases h2; rw [ho] at h3; cases h3)).trans hk⟩
theorem own_isCells {w : World} {B n : Nat} {e : TypeId} {v : Value} {xs : List Value} (h : w.ownsRow B e 1 v n xs) : ∀ r, v.ownBlock = some r → ∃ o : Obj, w.heap[r]? = some o ∧ o.isCells = true := by
  intro r hr
  rcases h.2 with ⟨rfl, _⟩ | ⟨g, cap, cur, rfl, _, hg, _⟩
  · cases hr
  · cases hr; exact ⟨_, hg, rfl⟩

def placesOf {l : List UInt8} (pre : List (RuneOf l)) : List Value := pre.map (fun x => .int .i64 (x.1.1 : Int))
theorem placesOf_snoc {l : List UInt8} (pre : List (RuneOf l)) (x : RuneOf l) : placesOf (pre ++ [x]) = placesOf pre ++ [.int .i64 (x.1.1 : Int)] := by simp [placesOf]
theorem some_init {l : List UInt8} {pre : List (RuneOf l)} {x : RuneOf l} (h : someR l (pre ++ [x])) : someR l pre := by
  obtain ⟨rest, h⟩ := h
  exact ⟨x.1 :: rest, Eq.trans (by simp) h⟩
theorem some_all {l : List UInt8} {ys : List (RuneOf l)} (h : allR l ys) : someR l ys := ⟨[], by rw [List.append_nil]; exact h⟩
/-- Two beginnings of one row agree where both are. -/
theorem some_agree {l : List UInt8} {p q : List (RuneOf l)} {x y : RuneOf l} (hp : someR l p) (hq : someR l (q ++ [x])) (hy : p[q.length]? = some y) : y.1 = x.1 := by
  obtain ⟨r1, h1⟩ := hp
  obtain ⟨r2, h2⟩ := hq
  have a0 : (p.map (·.1) ++ r1)[q.length]? = some y.1 := by
    rw [List.getElem?_append_left (by have := (List.getElem?_eq_some_iff.1 hy).1; simpa using this), List.getElem?_map, hy]; rfl
  have b0 : ((q ++ [x]).map (·.1) ++ r2)[q.length]? = some x.1 := by simp
  have a : (runesL l)[q.length]? = some y.1 := (congrArg (fun z => z[q.length]?) h1).symm.trans a0
  have b : (runesL l)[q.length]? = some x.1 := (congrArg (fun z => z[q.length]?) h2).symm.trans b0
  rw [a] at b
  exact Option.some.inj b
theorem some_len {l : List UInt8} {p : List (RuneOf l)} (h : someR l p) : p.length ≤ (runesL l).length := by
  obtain ⟨r1, h1⟩ := h
  have := congrArg List.length h1
  simp at this; omega

/-- What stands while the first loop gathers its places: the box of 'first' holds a row of its own. -/
def EarlyI (s : ByteArray) (take : Int) (w : World) (n1 : Nat) (pre : List (RuneOf s.data.toList)) (W : World) : Prop :=
  Boxed W w.heap.size 3 (.int .i64 take) ∧ Boxed W (w.heap.size + 1) 4 (.bool false) ∧ Boxed W n1 9 (.string s) ∧ (∃ ao cap, Boxed W (n1 + 1) 25 (.slice ao pre.length cap) ∧ W.ownsRow (n1 + 2) 3 1 (.slice ao pre.length cap) pre.length (placesOf pre)) ∧ Below w.heap.size w W
theorem earlyI_own (s : ByteArray) (take : Int) (w : World) (n1 B : Nat) (hn : w.heap.size + 2 ≤ n1) (hB : n1 + 2 ≤ B) : OwnFrom B (EarlyI s take w n1) := by
  rintro pre W W' row ⟨h0, h1, h2, ⟨ao, cap, h3, h4⟩, h5⟩ hg hr
  exact ⟨h0.kept hg (fun e => by have := (hr _ e.symm).1; omega), h1.kept hg (fun e => by have := (hr _ e.symm).1; omega), h2.kept hg (fun e => by have := (hr _ e.symm).1; omega),
    ⟨ao, cap, h3.kept hg (fun e => by have := (hr _ e.symm).1; omega), own_cells_kept h4 hg (fun r e => by obtain ⟨_, o, ho, hc⟩ := hr r e; exact ⟨o, ho, fun c t fz e => by subst e; cases hc⟩)⟩,
    h5.grown hg h5.size (fun k e => by have := (hr k e).1; omega)⟩

set_option maxRecDepth 100000 in
set_option maxHeartbeats 2000000 in
theorem foldEarly_in (s : ByteArray) (take : Int) (w : World) (hs : s.size ≤ 1048576) (hT : Tabs w) :
    CallsIn Fence.wide 6 Tryd.prog 5 #[.string s, .int .i64 take] w (TrueBelow w) := by
  have HT := Lib.hid hT; clear hT
  obtain ⟨i0, hi, hz0, hz1, hz2⟩ := info_parts infoInt
  refine callsIn_of_wp_marks Tryd.func5 rfl trivial ?_ rfl
  simp only [Tryd.ntmps5, List.size_toArray, List.length_cons, List.length_nil, Nat.reduceAdd, Nat.reduceSub, Array.replicate_succ, Array.replicate_zero, List.push_toArray, List.append_toArray, List.nil_append, List.cons_append]
  gi_wp2_with fail
  refine ⟨trivial, ?_⟩
  have hbA : Below w.heap.size w ((w.alloc (.cells #[.int .i64 take] 3)).alloc (.cells #[.bool false] 4)) := ((Below.refl _ _).alloc (Nat.le_refl _) _).alloc (by simp) _
  have hxA := (Boxed.new w 3 (.int .i64 take)).alloc (.cells #[.bool false] 4)
  have hxB := Boxed.new (w.alloc (.cells #[.int .i64 take] 3)) 4 (.bool false)
  simp only [World.size_alloc] at hxB
  refine (callsIn_wide.2 (known_any _ (HT.out.next hbA))).mono ?_
  rintro e w1 ⟨rfl, hb⟩
  have HB1 : Hid (Below w.heap.size w w1) := Lib.hid (hbA.trans (hb.mono (by simp; omega)))
  have hs1 : w.heap.size + 2 ≤ w1.heap.size := by have := hb.size; simp at this; omega
  have hx0 : Boxed w1 w.heap.size 3 (.int .i64 take) := (hb.block _ (by simp; omega)).trans hxA
  have hx1 : Boxed w1 (w.heap.size + 1) 4 (.bool false) := (hb.block _ (by simp)).trans hxB
  clear hb hxA hxB hbA
  gi_wp2_with fail
  refine ⟨trivial, ?_⟩
  refine (runes_in _ _ _).mono ?_
  rintro e w' ⟨rfl, rfl⟩
  gi_wp2_with fail
  have hi0 : EarlyI s take w w1.heap.size [] ((w1.alloc (.cells #[.string s] 9)).alloc (.cells #[.slice none 0 0] 25)) := by
    refine ⟨(hx0.alloc _).alloc _, (hx1.alloc _).alloc _, (Boxed.new w1 9 (.string s)).alloc _, ⟨none, 0, ?_, World.ownsRow_nil _ _ _ _⟩, (HB1.out.alloc (by omega) _).alloc (by simp; omega) _⟩
    have := Boxed.new (w1.alloc (.cells #[.string s] 9)) 25 (.slice none 0 0)
    simpa using this
  have hsz : ((w1.alloc (.cells #[.string s] 9)).alloc (.cells #[.slice none 0 0] 25)).heap.size = w1.heap.size + 2 := by simp
  have hw0 : ∃ W0, ((w1.alloc (.cells #[.string s] 9)).alloc (.cells #[.slice none 0 0] 25)) = W0 := ⟨_, rfl⟩
  obtain ⟨W0, hW0⟩ := hw0
  rw [hW0] at hi0 hsz ⊢
  have hT0 : Tabs W0 := HT.out.next hi0.2.2.2.2
  have h2 : 2 ≤ w.heap.size := HT.out.2
  clear hW0
  refine' wpIn_rangeFunc_ownF rfl (by omega) (gf := 27) (lb := #[.pointer (some ⟨w1.heap.size, 0, none⟩)]) rfl trivial (enters_of Tryd.func27 (by kernel_rfl) rfl)
    (runes_stops w1.heap.size s (by omega) W0 hi0.2.2.1 hT0) KpR.trans (kpR_b (by omega) (by omega)) (Below.refl _ _) (fun _ => rfl)
    (EarlyI s take w w1.heap.size)
    (fun c pre W => c = .exit 0 ∧ ∃ pre' x, pre = pre' ++ [x] ∧ EarlyI s take w w1.heap.size pre' W)
    (earlyI_own s take w w1.heap.size _ hs1 (by omega))
    (fun c pre A B row hI hg hr => by obtain ⟨hc, pre', x, hp, hI⟩ := hI; exact ⟨hc, pre', x, hp, earlyI_own s take w w1.heap.size _ hs1 (by omega) _ _ _ _ hI hg hr⟩)
    hi0 _ ?assign ?body ?done ?stop
  case assign =>
    intro l x W K hK
    dsimp only [encR]
    gi_wp2
    exact hK
  case body =>
    rintro l0 pre x W ⟨hx0, hx1, hx2, ⟨ao, cap, hx3, ho⟩, hB⟩ hlt
    have hn1 : (runesL s.data.toList).length ≤ 1048576 := by have := runesL_length s.data.toList; simp at this; omega
    have k0 := hx0.cell
    have k3 := hx3.cell
    have k3f := hx3.frozen
    have HO := Lib.hid ho; clear ho
    by_cases ht : take ≤ (pre.length : Int)
    · have htb : decide (take ≤ (pre.length : Int)) = true := by simpa using ht
      clear ht
      gi_wp2_with fail
      exact ⟨KeepsOthers.refl _, rfl, pre, x, rfl, hx0, hx1, hx2, ⟨ao, cap, hx3, HO.out⟩, hB⟩
    · have htb : decide (take ≤ (pre.length : Int)) = false := by simpa using ht
      clear ht
      gi_wp2_with (gi_at_builtin; refine wpListIn_append_own _ rfl (.tmp 21) (.tmp 23) 25 rfl (w1.heap.size + 2) 3 i0 (.int .i64 0) 1 8 Tryd.underlying25 hi hz0 hz1 hz2 rfl (by decide) (.slice ao pre.length cap) pre.length (placesOf pre) rfl (HO.out.alloc _) ⟨W.heap.size, 0, none⟩ 1 1 [.int .i64 (x.1.1 : Int)] rfl rfl ?c1 ?c2 ?c3 ?c4 ?c5 ?_)
      case c1 => exact cell_one_new _ _ _
      case c2 => intro u hu; simp at hu; subst hu; rfl
      case c3 => unfold maxLen; omega
      case c4 => omega
      case c5 => have := (Array.getElem?_eq_some_iff.1 (show W.heap[w1.heap.size + 1]? = _ from hx3)).1; simp; omega
      intro v1 w3 hown hgrow _
      have hrow : ∀ r, (Value.slice ao pre.length cap).ownBlock = some r → w1.heap.size + 2 ≤ r := fun r e => (HO.out.lt r e).1
      have hko : KeepsOthers W w3 := (keepsOthers_below ((Below.refl _ W).alloc (Nat.le_refl _) _)).trans (keepsOthers_grown hgrow (own_isCells (HO.out.alloc _)))
      have hb3 : Below (w1.heap.size + 2) W w3 := ((Below.refl _ W).alloc (by have := (Array.getElem?_eq_some_iff.1 (show W.heap[w1.heap.size + 1]? = _ from hx3)).1; omega) _).grown hgrow (by have := (Array.getElem?_eq_some_iff.1 (show W.heap[w1.heap.size + 1]? = _ from hx3)).1; simp; omega) hrow
      have hy0 : Boxed w3 w.heap.size 3 (.int .i64 take) := (hb3.block _ (by omega)).trans hx0
      have hy1 : Boxed w3 (w.heap.size + 1) 4 (.bool false) := (hb3.block _ (by omega)).trans hx1
      have hy2 : Boxed w3 w1.heap.size 9 (.string s) := (hb3.block _ (by omega)).trans hx2
      have hy3 : Boxed w3 (w1.heap.size + 1) 25 (.slice ao pre.length cap) := (hb3.block _ (by omega)).trans hx3
      have hbw : Below w.heap.size w w3 := hB.trans (hb3.mono (by omega))
      have hkp : KpR w1.heap.size W w3 := ⟨hb3.mono (by omega), hb3.block _ (by omega)⟩
      rw [← placesOf_snoc] at hown
      have hl1 : pre.length + 1 = (pre ++ [x]).length := by simp
      rw [hl1] at hown
      obtain ⟨ao', cap', rfl⟩ := own_slice hown
      have k4 := hy3.cell
      have k4f := hy3.frozen
      clear hgrow hrow hl1 hb3
      have HO3 := Lib.hid hown; clear hown
      gi_wp2_with fail
      exact ⟨hko.trans (KeepsOthers.setCell _ _ _), hkp.trans ⟨(Below.refl _ _).setCell (by show 2 ≤ w1.heap.size + 1; omega) _, Below.heap_setCell _ _ _ _ (by show w1.heap.size ≠ w1.heap.size + 1; omega)⟩,
        boxed_far hy0 (by show w.heap.size ≠ w1.heap.size + 1; omega) _, boxed_far hy1 (by show w.heap.size + 1 ≠ w1.heap.size + 1; omega) _, boxed_far hy2 (by show w1.heap.size ≠ w1.heap.size + 1; omega) _,
        ⟨ao', cap', by simp only [List.length_append, List.length_cons, List.length_nil, Nat.zero_add]; exact boxed_set hy3 _, own_setCell HO3.out (by show w1.heap.size + 1 < w1.heap.size + 2; omega) _⟩, hbw.setCell (by show w.heap.size ≤ w1.heap.size + 1; omega) _⟩
  case' done =>
    rintro D ys W hD hall hI hK
    have hsome := some_all hall
    clear hall
  case' stop =>
    rintro D c ys0 W hD hsome0 ⟨rfl, ys, x, rfl, hI⟩ hK
    have hsome := some_init hsome0
    clear hsome0 x
  all_goals
    have HS := Lib.hid hsome; clear hsome
    obtain ⟨hx0, hx1, hx2, ⟨ao, cap, hx3, ho⟩, hB⟩ := hI
    have HO := Lib.hid ho; clear ho
    gi_wp2_with fail
    have hWs : w1.heap.size + 2 ≤ W.heap.size := by have := (Array.getElem?_eq_some_iff.1 (show W.heap[w1.heap.size + 1]? = _ from hx3)).1; omega
    have hDl : D < W.heap.size := (Array.getElem?_eq_some_iff.1 hK).1
    have y1 := hx1.alloc (.cells #[.int .i64 0] 3)
    have y2 := hx2.alloc (.cells #[.int .i64 0] 3)
    have y3 := hx3.alloc (.cells #[.int .i64 0] 3)
    have y4 := Boxed.new W 3 (.int .i64 0)
    have yo := HO.out.alloc (.cells #[.int .i64 0] 3)
    have hgl : ∀ r, (Value.slice ao ys.length cap).ownBlock = some r → r < W.heap.size := fun r e => (HO.out.lt r e).2
    have yD : (W.alloc (.cells #[.int .i64 0] 3)).heap[D]? = some (.deferred (some [])) := (Below.heap_alloc _ _ _ hDl).trans hK
    have yB := hB.alloc hB.size (.cells #[.int .i64 0] 3)
    have hsz2 : (W.alloc (.cells #[.int .i64 0] 3)).heap.size = W.heap.size + 1 := by simp
    have hw2 : ∃ V0, (W.alloc (.cells #[.int .i64 0] 3)) = V0 := ⟨_, rfl⟩
    obtain ⟨V0, hV0⟩ := hw2
    rw [hV0] at y1 y2 y3 y4 yo yD yB hsz2 ⊢
    have hT1 : Tabs V0 := HT.out.next yB
    have hwn : ∃ n, W.heap.size = n := ⟨_, rfl⟩
    obtain ⟨n, hn⟩ := hwn
    rw [hn] at hWs hDl y4 hgl hsz2 ⊢
    clear hV0 hx0 hx1 hx2 hx3 hB hK HO hn
    clear W
    refine' wpIn_rangeFunc_ownF rfl (by omega) (gf := 27) (lb := #[.pointer (some ⟨w1.heap.size, 0, none⟩)]) rfl trivial (enters_of Tryd.func27 (by kernel_rfl) rfl)
      (runes_stops w1.heap.size s (by omega) V0 y2 hT1) KpR.trans (kpR_b (by omega) (by omega)) (Below.refl _ _) (fun _ => rfl)
      (fun pre W => Boxed W (w.heap.size + 1) 4 (.bool false) ∧ Boxed W (w1.heap.size + 1) 25 (.slice ao ys.length cap) ∧ Boxed W n 3 (.int .i64 (pre.length : Int)) ∧
        W.ownsRow (w1.heap.size + 2) 3 1 (.slice ao ys.length cap) ys.length (placesOf ys) ∧ W.heap[D]? = some (.deferred (some [])) ∧ Below w.heap.size w W)
      (fun c pre W => ∃ pre' x y, pre = pre' ++ [x] ∧ ys[pre'.length]? = some y ∧ y.1 ≠ x.1)
      (fun pre A B row hI hg hr => ⟨hI.1.kept hg (fun e => by have := (hr _ e.symm).1; omega), hI.2.1.kept hg (fun e => by have := (hr _ e.symm).1; omega), hI.2.2.1.kept hg (fun e => by have := (hr _ e.symm).1; omega),
        own_cells_kept hI.2.2.2.1 hg (fun r e => by obtain ⟨_, o, ho, hc⟩ := hr r e; exact ⟨o, ho, fun c t fz e => by subst e; cases hc⟩),
        (hg.block D (Array.getElem?_eq_some_iff.1 hI.2.2.2.2.1).1 (fun e => by have := (hr _ e.symm).1; omega)).trans hI.2.2.2.2.1,
        hI.2.2.2.2.2.grown hg hI.2.2.2.2.2.size (fun k e => by have := (hr k e).1; omega)⟩)
      (fun c pre A B row hI _ _ => hI)
      ⟨y1, y3, y4, yo, yD, yB⟩ _ ?_ ?_ ?_ ?_
    rotate_left
    ·
      intro l x W K hK
      dsimp only [encR]
      gi_wp2
      exact hK
    ·
      rintro l0 pre x W ⟨hx1, hx3, hx4, ho, hD2, hB⟩ hlt
      have hn1 : (runesL s.data.toList).length ≤ 1048576 := by have := runesL_length s.data.toList; simp at this; omega
      have k3 := hx3.cell
      have k4 := hx4.cell
      have k4f := hx4.frozen
      have k1 := hx1.cell
      have k1f := hx1.frozen
      have HO := Lib.hid ho
      have hfar : (Value.slice ao ys.length cap).ownBlock ≠ some n := fun e => by have := hgl n e; omega
      have fin : ∀ v, v = Value.int .i64 (((pre ++ [x]).length : Nat) : Int) → KeepsOthers W (W.setCell ⟨n, 0, none⟩ v) ∧ KpR w1.heap.size W (W.setCell ⟨n, 0, none⟩ v) ∧ Boxed (W.setCell ⟨n, 0, none⟩ v) (w.heap.size + 1) 4 (.bool false) ∧ Boxed (W.setCell ⟨n, 0, none⟩ v) (w1.heap.size + 1) 25 (.slice ao ys.length cap) ∧ Boxed (W.setCell ⟨n, 0, none⟩ v) n 3 (.int .i64 ((pre ++ [x]).length : Int)) ∧
          (W.setCell ⟨n, 0, none⟩ v).ownsRow (w1.heap.size + 2) 3 1 (.slice ao ys.length cap) ys.length (placesOf ys) ∧ (W.setCell ⟨n, 0, none⟩ v).heap[D]? = some (.deferred (some [])) ∧ Below w.heap.size w (W.setCell ⟨n, 0, none⟩ v) := by
        rintro v rfl
        exact ⟨KeepsOthers.setCell _ _ _, ⟨(Below.refl _ _).setCell (by show 2 ≤ n; omega) _, Below.heap_setCell _ _ _ _ (by show w1.heap.size ≠ n; omega)⟩, boxed_far hx1 (by show w.heap.size + 1 ≠ n; omega) _, boxed_far hx3 (by show w1.heap.size + 1 ≠ n; omega) _, boxed_set hx4 _,
          own_setCell_ne HO.out hfar _, (Below.heap_setCell _ _ _ _ (by show D ≠ n; omega)).trans hD2, hB.setCell (by show w.heap.size ≤ n; omega) _⟩
      have FIN := Lib.hid fin
      by_cases hlt2 : pre.length < ys.length
      · have hy : ∃ y, ys[pre.length]? = some y := ⟨_, List.getElem?_eq_getElem hlt2⟩
        obtain ⟨y, hy⟩ := hy
        obtain ⟨g, rfl, hg, _, hc⟩ := own_cell ho hlt2
        have hd : W.cell? ⟨g, pre.length, none⟩ = some (.int .i64 (y.1.1 : Int)) := hc pre.length _ (by simp [placesOf, hy])
        have hltb : decide (pre.length < ys.length) = true := by simpa using hlt2
        have hge : ¬ (ys.length ≤ pre.length) := by omega
        clear hc ho fin hfar hgl
        by_cases he : y.1.1 = x.1.1
        · have hpb : ((y.1.1 : Int) != (x.1.1 : Int)) = false := by rw [he]; simp
          clear he
          gi_wp2_with fail
          exact FIN.out _ (by simp)
        · have hpb : ((y.1.1 : Int) != (x.1.1 : Int)) = true := by rw [bne_iff_ne]; omega
          have HE := Lib.hid he; clear he
          gi_wp2_with fail
          exact ⟨KeepsOthers.setCell _ _ _, pre, x, y, rfl, hy, fun e => HE.out (congrArg Prod.fst e)⟩
      · have hltb : decide (pre.length < ys.length) = false := by simpa using hlt2
        clear ho fin hfar hgl
        gi_wp2_with fail
        exact FIN.out _ (by simp)
    ·
      rintro D2 zs W hD2 hall ⟨hx1, hx3, hx4, ho, hKD, hB⟩ hK2
      have hzl : zs.length = (runesL s.data.toList).length := by rw [← (show zs.map (·.1) = _ from hall), List.length_map]
      have hyl := some_len HS.out
      have hgeb : decide (ys.length ≤ (runesL s.data.toList).length) = true := by simp; omega
      have k1 := hx1.cell
      have k1f := hx1.frozen
      have k3 := hx3.cell
      have k4 := hx4.cell
      clear hall hyl
      gi_wp2_with fail
      have hK2' := (KeepsOthers.setCell W ⟨w.heap.size + 1, 0, none⟩ (.bool true)).same D2 _ hK2 rfl
      have hKD' := (KeepsOthers.setCell W ⟨w.heap.size + 1, 0, none⟩ (.bool true)).same D _ hKD rfl
      have hKD2 : ((W.setCell ⟨w.heap.size + 1, 0, none⟩ (.bool true)).putObj D2 (.deferred none)).heap[D]? = some (.deferred (some [])) := (World.putObj_heap_other (by omega)).trans hKD'
      refine ⟨by simp, .inl ⟨_, _, rfl, run_takeDeferred hK2', ?_⟩⟩
      refine ⟨by simp, .inl ⟨_, _, rfl, run_takeDeferred hKD2, ?_⟩⟩
      have hc5 := cell_kept (World.cell?_setCell_same' W ⟨w.heap.size + 1, 0, none⟩ (.bool true) (by rw [k1]; rfl)) (grownBy_putObj' _ D2 (.deferred none)) (fun r e => by cases e; exact ⟨_, hK2', rfl⟩)
      have hc6 := cell_kept hc5 (grownBy_putObj' _ D (.deferred none)) (fun r e => by cases e; exact ⟨_, hKD2, rfl⟩)
      refine ⟨.bool true, ?_, rfl, ((hB.setCell (p := ⟨w.heap.size + 1, 0, none⟩) (Nat.le_succ _) _).trans (belowK_b (w := w) (Nat.le_refl _) _ D2 _ _ (by omega) hK2' rfl rfl)).trans (belowK_b (w := w) (Nat.le_refl _) _ D _ _ (by omega) hKD2 rfl rfl)⟩
      simp [results, Tryd.f5, go_sem, hc6]
    ·
      rintro D2 c pre W hD2 hp ⟨pre', x, y, rfl, hy, hne⟩ _
      exact (hne (some_agree HS.out hp hy)).elim
theorem foldEarly_walk (s : ByteArray) (take : Int) (_h : (Lit.int .i64 take).wf = true) (w : World) (hs : s.size ≤ 1048576) (hT : Tabs w) :
    Calls Tryd.prog 5 #[.string s, .int .i64 take] w (TrueBelow w) := callsIn_wide.1 (foldEarly_in s take w hs hT)
end Go.Proofs.YtdgmgedecnbmdaaDoor.FoldLaws
