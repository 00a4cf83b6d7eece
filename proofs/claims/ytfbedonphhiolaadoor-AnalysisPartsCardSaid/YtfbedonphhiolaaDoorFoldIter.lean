/- Contract: 'Runes': the iterator hands its loop body the runes of the text with their places, one behind the other, till the body stops. -/
import Derived.Test.YtfbedonphhiolaaDoorFoldNext
import Derived.Test.YtfbedonphhiolaaDoorFoldRunesP
import Derived.RangeFuncNested
import Derived.RangeFuncBound
import Derived.RangeFuncCalls
import Derived.RangeFuncLeaves
import Derived.RangeFuncBox
import Derived.OwnWalkIn
import Derived.TacticsInMore
import Derived.LoopNIn
import Derived.LoopIn
import Derived.Lib.FrozenHead2
import Derived.Lib.OthersKept
set_option linter.unusedVariables false
namespace Go.Proofs.YtfbedonphhiolaaDoor.FoldIter
open Go.RowKit Go.Lib FoldP FoldInts Kit FoldForms FoldNext

theorem only_of_below {a w : World} (h : Below a.heap.size a w) (row : Option Nat) : a.grownBy w row := ⟨h.os, h.tape, h.output, h.size, fun i hi _ => h.block i hi⟩

attribute [local go_sem] Oper.semAt_some

/-- A rune of a text, with its place. -/
abbrev RuneOf (l : List UInt8) : Type := { x : Nat × Int // x ∈ runesL l }

/-- What a round keeps: the library's tables, and the iterator's own variable. -/
def KpR (Bs : Nat) (W W' : World) : Prop := Below 2 W W' ∧ W'.heap[Bs]? = W.heap[Bs]?
theorem KpR.trans {Bs : Nat} {A B C : World} (h : KpR Bs A B) (k : KpR Bs B C) : KpR Bs A C := ⟨h.1.trans k.1, k.2.trans h.2⟩
theorem KpR.below {Bs B : Nat} {W W' : World} (h : Below B W W') (h2 : 2 ≤ B) (hB : Bs < B) : KpR Bs W W' := ⟨h.mono h2, h.block Bs hB⟩

def encR {l : List UInt8} (x : RuneOf l) : Array Value := #[.int .i64 (x.1.1 : Int), .int .i32 x.1.2]
def allR (l : List UInt8) (xs : List (RuneOf l)) : Prop := xs.map (·.1) = runesL l
def someR (l : List UInt8) (pre : List (RuneOf l)) : Prop := ∃ rest, pre.map (·.1) ++ rest = runesL l

theorem box_cell {W : World} {Bs : Nat} {v : Value} {t : TypeId} (h : W.heap[Bs]? = some (.cells #[v] t (0, 0))) : W.cell? ⟨Bs, 0, none⟩ = some v := by simp [World.cell?, h]

set_option maxRecDepth 100000 in
set_option maxHeartbeats 1000000 in
theorem runes1_in (l0 Bs : Nat) (s : ByteArray) (hs : s.size ≤ 9223372036854775807) (J Jx : List (RuneOf s.data.toList) → World → Prop) (W : World)
    (hJ : AbidesFrom W.heap.size J)
    (hY : ∀ pre x W1, J pre W1 → pre.length < (runesL s.data.toList).length → YieldAt Fence.wide 4 Tryd.prog l0 (encR x) W1 fun e W' =>
      (e = .returned (.bool true) ∧ J (pre ++ [x]) W' ∧ KpR Bs W1 W') ∨ (e = .returned (.bool false) ∧ Jx (pre ++ [x]) W'))
    (hBs : W.heap[Bs]? = some (.cells #[.string s] 9 (0, 0))) (hT : Tabs W) (h0 : J [] W) :
    CallsIn Fence.wide 5 Tryd.prog 72 #[.func (.yield l0) #[] #[], .pointer (some ⟨Bs, 0, none⟩)] W fun e W' => (∃ v, e = .returned v) ∧
      ((∃ ys, allR s.data.toList ys ∧ J ys W') ∨ (∃ pre, someR s.data.toList pre ∧ Jx pre W')) := by
  have HJ := Lib.hid hJ; clear hJ
  have HY := Lib.hid hY; clear hY
  have HBS := Lib.hid hBs; clear hBs
  refine callsIn_of_wp Tryd.func72 rfl trivial ?_ rfl
  simp only [Tryd.ntmps72, List.size_toArray, List.length_cons, List.length_nil, Nat.reduceAdd, Nat.reduceSub, Array.replicate_succ, Array.replicate_zero, List.push_toArray, List.append_toArray, List.nil_append, List.cons_append]
  gi_wp2
  gi_loopw [3] (fun i wr => ∃ (k : Nat) (pre : List (RuneOf s.data.toList)), k ≤ s.size ∧ i = .int .i64 k ∧ J pre wr ∧ Hid (pre.map (·.1) ++ runesFrom k (s.data.toList.drop k) = runesL s.data.toList) ∧ KpR Bs W wr ∧ W.heap.size ≤ wr.heap.size)
    (fun i _ => s.size - (RowKit.intOf i).toNat)
  case atStart => exact ⟨0, [], Nat.zero_le _, rfl, h0, Lib.hid rfl, ⟨Below.refl _ _, rfl⟩, Nat.le_refl _⟩
  case round =>
    obtain ⟨k, pre, hk, rfl, hJs, hpre, hkp, hsz⟩ := hrel
    have hlen : s.data.toList.length = s.size := by simp
    have hcb : wr.cell? ⟨Bs, 0, none⟩ = some (.string s) := box_cell (hkp.2.trans HBS.out)
    have hTr : Tabs wr := hT.below hkp.1 (Nat.le_refl _)
    by_cases hlt : k < s.size
    · have hst := step_le s.data.toList k (by rw [hlen]; exact hlt)
      have hat := runesAt s.data.toList k (by rw [hlen]; exact hlt)
      have hnx := next_any s k wr (by unfold maxLen; omega) hTr
      unfold NextRet at hnx
      rw [next_in _ k (by rw [hlen]; exact hlt)] at hnx
      have hle := decodeL_rune (s.data.toList.drop k)
      rw [hat] at hpre
      rw [hlen] at hst
      clear hat hlen
      generalize hdr : decodeL (s.data.toList.drop k) = d at *
      have HDR := Lib.hid hdr; clear hdr
      obtain ⟨rr, nn⟩ := d
      dsimp only at *
      obtain ⟨hst1, hst2⟩ := hst
      have hmem : ((k, (rr : Int)) : Nat × Int) ∈ runesL s.data.toList := by rw [← hpre.out]; simp
      have hplen : pre.length < (runesL s.data.toList).length := by rw [← hpre.out]; simp
      have HP : Hid ((pre ++ [(⟨(k, (rr : Int)), hmem⟩ : RuneOf s.data.toList)]).map (·.1) ++ runesFrom (k + nn) (s.data.toList.drop (k + nn)) = runesL s.data.toList) := by
        unfold Hid; refine Eq.trans ?_ hpre.out; simp
      have HPL := Lib.hid hplen; clear hplen
      have HN := Lib.hid hnx; clear hnx
      gi_wp2_with fail
      refine ⟨trivial, ?_⟩
      refine (callsIn_wide.2 HN.out).mono ?_
      rintro e w2 ⟨rfl, hb2⟩
      have hJ2 : J pre w2 := HJ.out _ _ _ none hJs (only_of_below hb2 none) (fun r e => by cases e)
      have hB2 : Bs < wr.heap.size := by
        have h1 := hkp.2.trans HBS.out
        rcases Nat.lt_or_ge Bs wr.heap.size with h' | h'
        · exact h'
        · rw [Array.getElem?_eq_none h'] at h1; cases h1
      have hkp2 : KpR Bs W w2 := hkp.trans (KpR.below hb2 hTr.2 hB2)
      have hsz2 : W.heap.size ≤ w2.heap.size := Nat.le_trans hsz hb2.size
      obtain ⟨fn, tmps, assign, body, hy, hR⟩ := HY.out pre ⟨(k, (rr : Int)), hmem⟩ w2 hJ2 HPL.out
      dsimp only [encR] at hy
      have HKP := Lib.hid hkp2
      clear hkp hkp2 hb2
      gi_wp2
      refine hR.mono ?_
      rintro e W3 (⟨rfl, hJ3, hk3⟩ | ⟨rfl, hJx3⟩)
      · have HK3 := Lib.hid hk3; clear hk3
        gi_wp2
        go_roundw
        case rel => exact ⟨k + nn, _, hst2, by go_num, hJ3, HP, HKP.out.trans HK3.out, Nat.le_trans hsz2 HK3.out.1.size⟩
        case measure => simp [RowKit.intOf]; omega
      · gi_wp2
        refine bodyPost_ret (results_none rfl _ _ _) rfl ?_
        exact ⟨⟨_, rfl⟩, .inr ⟨_, ⟨_, HP.out⟩, hJx3⟩⟩
    · obtain rfl : k = s.size := by omega
      have hfin : allR s.data.toList pre := by
        have := hpre.out
        rw [runesEnd _ _ (by rw [hlen]; exact Nat.le_refl _), List.append_nil] at this
        exact this
      have HF := Lib.hid hfin
      clear hfin hlen
      gi_wp2
      go_end0
      exact ⟨⟨_, rfl⟩, .inl ⟨_, HF.out, hJs⟩⟩

/-- 'Runes' lays its text and hands back the iterator. -/
theorem runes_in (n : Nat) (s : ByteArray) (w : World) :
    CallsIn Fence.wide n Tryd.prog 63 #[.string s] w fun e w' => e = .returned (.func (.func 72) #[] #[.pointer (some ⟨w.heap.size, 0, none⟩)]) ∧ w' = w.alloc (.cells #[.string s] 9) := by
  refine callsIn_of_wp Tryd.func63 rfl trivial ?_ rfl
  simp only [Tryd.ntmps63, List.size_toArray, List.length_cons, List.length_nil, Nat.reduceAdd, Nat.reduceSub, Array.replicate_succ, Array.replicate_zero, List.push_toArray, List.append_toArray, List.nil_append, List.cons_append]
  gi_wp2
  go_ret
  exact ⟨rfl, rfl⟩

theorem kpR_b {Bs : Nat} {w : World} (h2 : 2 ≤ w.heap.size) (hB : Bs < w.heap.size) (W : World) (l : Nat) (o o' : Obj) (hl : w.heap.size ≤ l) (h : W.heap[l]? = some o) (_ : o.isCells = false) (_ : o.isWalk = false) : KpR Bs W (W.putObj l o') :=
  KpR.below (B := w.heap.size) (belowK_b (w := w) (Nat.le_refl _) W l o o' hl h ‹_› ‹_›) h2 hB
/-- A call that only makes memory keeps all that a body must keep. -/
theorem keepsOthers_below {W W' : World} (h : Below W.heap.size W W') : KeepsOthers W W' :=
  ⟨h.size, fun k o hk _ => (h.block k (Array.getElem?_eq_some_iff.1 hk).1).trans hk⟩
theorem keepsOthers_others {e : TypeId} {b : Nat} {w w' : World} (h : Lib.OthersKept e (some b) w w') (hs : w.heap.size ≤ w'.heap.size) (hb : ∃ c t fz, w.heap[b]? = some (.cells c t fz)) : KeepsOthers w w' :=
  ⟨hs, fun k o hk ho => h k o hk (fun e => by
    obtain ⟨c, t, fz, hc⟩ := hb
    cases e; rw [hc] at hk; cases hk; cases ho) (fun c fz e => by subst e; cases ho)⟩
theorem builder_cells {T e : TypeId} {B b : Nat} {bs : List Value} {w : World} (h : Lib.IsBuilderF T e B b bs w) : ∃ c t fz, w.heap[b]? = some (.cells c t fz) := by
  rcases h with ⟨_, v, hb, _⟩ | ⟨_, v, hb, _⟩ <;> exact ⟨_, _, _, hb⟩
/-- What lay below the loop's beginning, and a builder, are kept where a block that is no cells turns. -/
theorem builder_kept {T e : TypeId} {B b : Nat} {bs : List Value} {W W' : World} {row : Option Nat} (h : Lib.IsBuilderF T e B b bs W) (hg : W.grownBy W' row) (hr : ∀ r, row = some r → ∃ o : Obj, W.heap[r]? = some o ∧ o.isCells = false) : Lib.IsBuilderF T e B b bs W' := by
  have one : ∀ p, Lib.BuilderAtF T e B b p bs W → Lib.BuilderAtF T e B b p bs W' := by
    intro p ⟨hB, v, hb, hown, hne⟩
    refine ⟨hB, v, (hg.block b (Array.getElem?_eq_some_iff.1 hb).1 (fun e => ?_)).trans hb, hown.kept hg ?_, hne⟩
    · obtain ⟨o, ho, hc⟩ := hr b e.symm
      rw [hb] at ho; cases ho; cases hc
    · cases hv : v.ownBlock with
      | none => exact .inl rfl
      | some g =>
        refine .inr (fun e => ?_)
        obtain ⟨o, ho, hc⟩ := hr g e.symm
        obtain ⟨c, fz, hk⟩ := Lib.ownsRowF_kind hown g hv
        rw [hk] at ho; cases ho; cases hc
  exact h.elim (fun x => .inl (one _ x)) (fun x => .inr (one _ x))

/-- THE ITERATOR'S CONTRACT. -/
theorem runes_stops (Bs : Nat) (s : ByteArray) (hs : s.size ≤ 9223372036854775807) (w : World) (hBs : w.heap[Bs]? = some (.cells #[.string s] 9 (0, 0))) (hT : Tabs w) :
    SeqStopsK Fence.wide 5 Tryd.prog 72 #[.pointer (some ⟨Bs, 0, none⟩)] (encR (l := s.data.toList)) (KpR Bs) (allR s.data.toList) (someR s.data.toList) (runesL s.data.toList).length w := fun l J Jx W hW hJ _ hY h0 => by
  have hlt : Bs < w.heap.size := by
    rcases Nat.lt_or_ge Bs w.heap.size with h' | h'
    · exact h'
    · rw [Array.getElem?_eq_none h'] at hBs; cases hBs
  exact runes1_in l Bs s hs J Jx W hJ hY ((hW.block Bs hlt).trans hBs) (hT.next hW) h0
end Go.Proofs.YtfbedonphhiolaaDoor.FoldIter
