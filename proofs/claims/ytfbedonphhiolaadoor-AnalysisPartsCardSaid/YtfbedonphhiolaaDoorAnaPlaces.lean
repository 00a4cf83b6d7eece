/- Contract: 'places': where the runes of a text begin, and its length: a range over the text's runes that collects. -/
import Derived.Test.YtfbedonphhiolaaDoorFoldIter
import Derived.Test.YtfbedonphhiolaaDoorOwn
import Derived.Test.YtfbedonphhiolaaDoorAnaP
import Derived.Maps.AppendAt
import Derived.RangeFuncWrites
set_option linter.unusedVariables false
namespace Go.Proofs.YtfbedonphhiolaaDoor.Ana
open Go.RowKit Go.Lib FoldP FoldInts Kit FoldForms FoldNext FoldIter AnaP Words Owned

attribute [local go_sem] Oper.semAt_some

theorem infoInt : (Tryd.prog.info? 3).map (fun i => (i.zero, i.size, i.bytes)) = some (some (.int .i64 0), 1, 8) := by kernel_rfl
def cellN (n : Nat) : Value := .int .i64 (n : Int)
def cellX {l : List UInt8} (x : RuneOf l) : Value := .int .i64 (x.1.1 : Int)
theorem not_cells {o : Obj} (h : o.isCells = false) : ∀ c t fz, o ≠ .cells c t fz := by rintro c t fz rfl; cases h
theorem allR_cells {l : List UInt8} {xs : List (RuneOf l)} (h : allR l xs) : xs.map cellX = (runesL l).map (fun x => cellN x.1) ∧ xs.length = (runesL l).length := by
  rw [← h]
  exact ⟨by simp [cellX, cellN], by simp⟩

/-- A row of numbers of the call's own. -/
def OwnInts (l : List Nat) (w : World) (e : Ending) (w' : World) : Prop := ∃ v, e = .returned v ∧ w'.ownsRow w.heap.size 3 1 v l.length (l.map cellN) ∧ Below w.heap.size w w'

set_option maxRecDepth 100000 in
set_option maxHeartbeats 2000000 in
theorem places_in (s : ByteArray) (w : World) (hs : s.size ≤ 17592186044415) (hT : Tabs w) :
    CallsIn Fence.wide 6 Tryd.prog 45 #[.string s] w (OwnInts (posL s.data.toList) w) := by
  have HT := Lib.hid hT; clear hT
  obtain ⟨i0, hi, hz0, hz1, hz2⟩ := info_parts infoInt
  refine callsIn_of_wp_marks Tryd.func45 rfl trivial ?_ rfl
  simp only [Tryd.ntmps45, List.size_toArray, List.length_cons, List.length_nil, Nat.reduceAdd, Nat.reduceSub, Array.replicate_succ, Array.replicate_zero, List.push_toArray, List.append_toArray, List.nil_append, List.cons_append]
  gi_wp2_with fail
  refine ⟨trivial, ?_⟩
  refine (runes_in _ _ _).mono ?_
  rintro e w' ⟨rfl, rfl⟩
  gi_wp2_with fail
  have hb0 : Below w.heap.size w ((w.alloc (.cells #[.slice none 0 0] 33)).alloc (.cells #[.string s] 9)) := ((Below.refl _ _).alloc (Nat.le_refl _) _).alloc (by simp) _
  have hbx : Boxed ((w.alloc (.cells #[.slice none 0 0] 33)).alloc (.cells #[.string s] 9)) w.heap.size 33 (.slice none 0 0) := (Boxed.new w 33 (.slice none 0 0)).alloc _
  have hk2 : ((w.alloc (.cells #[.slice none 0 0] 33)).alloc (.cells #[.string s] 9)).heap[w.heap.size + 1]? = some (.cells #[.string s] 9 (0, 0)) := by
    have := heap_alloc_new (w.alloc (.cells #[.slice none 0 0] 33)) (.cells #[.string s] 9)
    simpa using this
  have hsz : ((w.alloc (.cells #[.slice none 0 0] 33)).alloc (.cells #[.string s] 9)).heap.size = w.heap.size + 2 := by simp
  obtain ⟨W0, hW0⟩ : ∃ W0, ((w.alloc (.cells #[.slice none 0 0] 33)).alloc (.cells #[.string s] 9)) = W0 := ⟨_, rfl⟩
  rw [hW0] at hsz hb0 hbx hk2 ⊢
  have hT0 : Tabs W0 := HT.out.next hb0
  have h2 : 2 ≤ w.heap.size := HT.out.2
  clear hW0
  refine wpIn_rangeFunc_ownF rfl (by omega) (gf := 72) (lb := #[.pointer (some ⟨w.heap.size + 1, 0, none⟩)]) rfl trivial (enters_of Tryd.func72 (by kernel_rfl) rfl)
    (runes_stops (w.heap.size + 1) s (by omega) W0 hk2 hT0) KpR.trans (kpR_b (by omega) (by omega)) (Below.refl _ _) (fun _ => rfl)
    (fun pre W => (∃ v, Boxed W w.heap.size 33 v ∧ W.ownsRow w.heap.size 3 1 v pre.length (pre.map cellX)) ∧ W.heap[w.heap.size + 1]? = some (.cells #[.string s] 9 (0, 0)) ∧ Below w.heap.size w W)
    (fun _ _ _ => False)
    (fun pre A B row hI hg hr => ⟨by
        obtain ⟨v, hv, hrow⟩ := hI.1
        exact ⟨v, hv.kept hg (fun e => by obtain ⟨_, o, ho, hc⟩ := hr _ e.symm; rw [show A.heap[w.heap.size]? = _ from hv] at ho; cases ho; cases hc), own_cells_kept hrow hg (fun r e => by obtain ⟨_, o, ho, hc⟩ := hr r e; exact ⟨o, ho, not_cells hc⟩)⟩,
      (hg.block (w.heap.size + 1) (Array.getElem?_eq_some_iff.1 hI.2.1).1 (fun e => by have := (hr _ e.symm).1; omega)).trans hI.2.1,
      hI.2.2.grown hg hI.2.2.size (fun k e => by have := (hr k e).1; omega)⟩)
    (fun _ _ _ _ _ hs _ _ => hs)
    ⟨⟨_, hbx, World.ownsRow_nil _ _ _ _⟩, hk2, hb0⟩
    (fun x => { tmps := #[.string s, undef, .slice none 0 0, .pointer (some ⟨w.heap.size, 0, none⟩), .int .i64 (x.1.1 : Int), .string s, .func (.func 72) #[] #[.pointer (some ⟨w.heap.size + 1, 0, none⟩)], .int .i64 (x.1.1 : Int), .int .i32 x.1.2, undef, undef, undef, undef, undef, undef, undef, undef, undef], defers := [] }) ?assign ?body ?done ?stop
  case assign =>
    intro l x W K hK
    dsimp only [encR]
    gi_wp2
    exact hK
  case body =>
    rintro l0 pre x W ⟨⟨v, hv, hrow⟩, hby, hB⟩ hlt
    have hrl := runesL_length s.data.toList
    have hlen : s.data.toList.length = s.size := by simp
    rw [hlen] at hrl
    have hc := hv.cell
    have hBW : w.heap.size ≤ W.heap.size := hB.size
    have hyn : ∀ g, v.ownBlock = some g → g ≠ w.heap.size + 1 := fun g hg e => by
      subst e
      exact own_blk_ne hrow (t := 9) (cs := #[.string s]) hby (by decide) hg
    gi_wp2_with (gi_at_builtin; refine wpListIn_append_own _ rfl (.tmp 9) (.tmp 11) 33 rfl w.heap.size 3 i0 (.int .i64 0) 1 8 Tryd.underlying33 hi hz0 hz1 hz2 rfl (by decide) _ _ _ rfl (hrow.alloc _) ⟨W.heap.size, 0, none⟩ 1 1 [.int .i64 (x.1.1 : Int)] rfl rfl ?c1 ?c2 ?c3 ?c4 ?c5 ?_)
    case c1 => exact cell_one_new _ _ _
    case c2 => simp [Value.oneCell']
    case c3 => unfold maxLen; omega
    case c4 => omega
    case c5 => simp; omega
    intro v' w1 hown' hgrow _
    obtain ⟨g', cap', rfl⟩ := ownsRow_succ hown'
    obtain ⟨hv1, hv2, hr2, hk2', hb2⟩ := hv.appended (by decide) hrow hB.size (Nat.le_refl _) hown' hgrow
    have hc1 := hv1.cell
    have hf1 := hv1.frozen
    have hby1 : w1.heap[w.heap.size + 1]? = some (.cells #[.string s] 9 (0, 0)) := by
      have hlt' := (Array.getElem?_eq_some_iff.1 hby).1
      rw [hgrow.block _ (by simp; omega) (fun e => hyn _ e.symm rfl), Below.heap_alloc _ _ _ hlt']; exact hby
    have HBY := Lib.hid hby1
    have HK2 := Lib.hid hk2'; have HB2 := Lib.hid hb2; have HV2 := Lib.hid hv2; have HR2 := Lib.hid hr2
    clear hby1 hk2' hb2 hv2 hr2 hown' hgrow hyn
    gi_wp2_with fail
    have hfar : (w1.setCell ⟨w.heap.size, 0, none⟩ (.slice (some ⟨g', 0, none⟩) (pre.length + 1) cap')).heap[w.heap.size + 1]? = some (.cells #[.string s] 9 (0, 0)) := by
      rw [Below.heap_setCell _ _ _ _ (by simp)]; exact HBY.out
    refine ⟨HK2.out, ⟨HB2.out.mono h2, by rw [hfar, hby]⟩, ⟨_, HV2.out, ?_⟩, hfar, hB.trans HB2.out⟩
    have := HR2.out
    rw [List.length_append, List.map_append]
    exact this
  case done =>
    rintro D ys W hD hall ⟨⟨v, hv, hrow⟩, hby, hB⟩ hK
    obtain ⟨hcs, hln⟩ := allR_cells hall
    rw [hcs, hln] at hrow
    have hrl := runesL_length s.data.toList
    have hlen : s.data.toList.length = s.size := by simp
    rw [hlen] at hrl
    have hc := hv.cell
    have hBW : w.heap.size ≤ W.heap.size := hB.size
    have HL := Lib.hid hlen
    clear hcs hln hlen
    gi_wp2_with (gi_at_builtin; refine wpListIn_append_own _ rfl (.tmp 13) (.tmp 16) 33 rfl w.heap.size 3 i0 (.int .i64 0) 1 8 Tryd.underlying33 hi hz0 hz1 hz2 rfl (by decide) _ _ _ rfl (hrow.alloc _) ⟨W.heap.size, 0, none⟩ 1 1 [.int .i64 (s.size : Int)] rfl rfl ?d1 ?d2 ?d3 ?d4 ?d5 ?_)
    case d1 => exact cell_one_new _ _ _
    case d2 => simp [Value.oneCell']
    case d3 => unfold maxLen; omega
    case d4 => omega
    case d5 => simp; omega
    intro v' w1 hown' hgrow _
    have hb1 : Below w.heap.size w w1 := (hB.alloc hBW _).grown hgrow (by simp; omega) (fun r e => (hrow.lt r e).1)
    have hK1 : w1.heap[D]? = some (.deferred (some [])) := by
      have hlt' := (Array.getElem?_eq_some_iff.1 hK).1
      refine (hgrow.block D (by simp; omega) (fun e => ?_)).trans ((Below.heap_alloc _ _ _ hlt').trans hK)
      rcases hrow.2 with ⟨rfl, _⟩ | ⟨g, cap, cur, rfl, _, hh, _⟩
      · cases e
      · simp only [Value.ownBlock, Option.some.injEq] at e
        subst e; rw [hK] at hh; cases hh
    have HB1 := Lib.hid hb1; have HO := Lib.hid hown'; have HK1 := Lib.hid hK1
    clear hb1 hown' hK1 hgrow
    gi_wp2_with fail
    refine ⟨by simp, .inl ⟨_, _, rfl, run_takeDeferred HK1.out, ?_⟩⟩
    refine ⟨_, results_tmp rfl _ _ _, ?_⟩
    refine ⟨_, rfl, ?_, HB1.out.trans (belowK_b (w := w) (Nat.le_refl _) _ D _ _ (by omega) HK1.out rfl rfl)⟩
    rw [posL_len]
    have e : (posL s.data.toList).map cellN = (runesL s.data.toList).map (fun x => cellN x.1) ++ [.int .i64 (s.size : Int)] := by
      unfold posL posFrom
      rw [List.drop_zero, List.map_append, List.map_map, HL.out]; rfl
    rw [e]
    exact ownsRow_putObj HO.out _ HK1.out rfl
  case stop =>
    rintro D c pre W hD _ h _
    exact h.elim
theorem places_any (s : ByteArray) (w : World) (hs : s.size ≤ 17592186044415) (hT : Tabs w) : Calls Tryd.prog 45 #[.string s] w (OwnInts (posL s.data.toList) w) := (callsIn_wide.1 (places_in s w hs hT))
end Go.Proofs.YtfbedonphhiolaaDoor.Ana
