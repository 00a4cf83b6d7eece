/- Contract: the iterator of a text's runes gives them in their order. -/
import Derived.Test.YtfbedonphhiolaaDoorFoldIter
import Derived.Test.YtfbedonphhiolaaDoorRange
import Derived.Test.YtfbedonphhiolaaDoorAnaPlain
set_option linter.unusedVariables false
namespace Go.Proofs.YtfbedonphhiolaaDoor.Ana
open Go.RowKit Go.Lib FoldP FoldInts Kit FoldForms FoldNext FoldIter AnaP Range

attribute [local go_sem] Oper.semAt_some

/-- Behind pre comes x. -/
def NxR (l : List UInt8) (pre : List (Nat × Int)) (x : Nat × Int) : Prop := ∃ rest, pre ++ x :: rest = runesL l
def encP (x : Nat × Int) : Array Value := #[.int .i64 (x.1 : Int), .int .i32 x.2]
theorem nx_get {l : List UInt8} {pre : List (Nat × Int)} {x : Nat × Int} (h : NxR l pre x) : pre.length < nR l ∧ x.1 = posAt l pre.length ∧ x.1 < l.length ∧ (runeL l).drop pre.length = x.2 :: (runeL l).drop (pre.length + 1) := by
  obtain ⟨rest, h⟩ := h
  have hl : pre.length < nR l := by unfold nR; rw [← h]; simp
  have hg := runes_get l pre.length hl
  rw [← h, List.getElem?_append_right (Nat.le_refl _), Nat.sub_self, List.getElem?_cons_zero] at hg
  have hx := Option.some.inj hg
  have hm : x ∈ runesL l := by rw [← h]; simp
  refine ⟨hl, by rw [hx], (runesL_mem hm).1, ?_⟩
  unfold runeL
  rw [← h, List.map_append, List.map_cons]
  have e1 : pre.length = (pre.map (·.2)).length := by simp
  rw [e1, List.drop_left, List.drop_append, show (pre.map (·.2)).length + 1 - (pre.map (·.2)).length = 1 by omega, List.drop_eq_nil_of_le (by omega)]; rfl

set_option maxRecDepth 100000 in
set_option maxHeartbeats 1000000 in
theorem runes1_gives (l0 Bs : Nat) (s : ByteArray) (hs : s.size ≤ 9223372036854775807) (J : List (Nat × Int) → World → Prop) (W : World)
    (hJ : AbidesFrom W.heap.size J)
    (hY : ∀ pre x W1, NxR s.data.toList pre x → J pre W1 → YieldAt Fence.wide 4 Tryd.prog l0 (encP x) W1 fun e W' => e = .returned (.bool true) ∧ J (pre ++ [x]) W' ∧ KpR Bs W1 W')
    (hBs : W.heap[Bs]? = some (.cells #[.string s] 9 (0, 0))) (hT : Tabs W) (h0 : J [] W) :
    CallsIn Fence.wide 5 Tryd.prog 72 #[.func (.yield l0) #[] #[], .pointer (some ⟨Bs, 0, none⟩)] W fun e W' => (∃ v, e = .returned v) ∧ ∃ ys, ys = runesL s.data.toList ∧ J ys W' := by
  have HJ := Lib.hid hJ; clear hJ
  have HY := Lib.hid hY; clear hY
  have HBS := Lib.hid hBs; clear hBs
  refine callsIn_of_wp Tryd.func72 rfl trivial ?_ rfl
  simp only [Tryd.ntmps72, List.size_toArray, List.length_cons, List.length_nil, Nat.reduceAdd, Nat.reduceSub, Array.replicate_succ, Array.replicate_zero, List.push_toArray, List.append_toArray, List.nil_append, List.cons_append]
  gi_wp2
  gi_loopw [3] (fun i wr => ∃ (k : Nat) (pre : List (Nat × Int)), k ≤ s.size ∧ i = .int .i64 k ∧ J pre wr ∧ Hid (pre ++ runesFrom k (s.data.toList.drop k) = runesL s.data.toList) ∧ KpR Bs W wr ∧ W.heap.size ≤ wr.heap.size)
    (fun i _ => s.size - (RowKit.intOf i).toNat)
  case atStart => exact ⟨0, [], Nat.zero_le _, rfl, h0, Lib.hid rfl, ⟨Below.refl _ _, rfl⟩, Nat.le_refl _⟩
  case round =>
    obtain ⟨k, pre, hk, rfl, hJs, hpre, hkp, hsz⟩ := hrel
    have hlen : s.data.toList.length = s.size := by simp
    have hcb : wr.cell? ⟨Bs, 0, none⟩ = some (.string s) := box_cell (hkp.2.trans HBS.out)
    have hTr : Tabs wr := hT.below hkp.1 (Nat.le_refl _)
    by_cases hlt : k < s.size
    · have hst := step_le s.data.toList k (by rw [hlen]; exact hlt)
      have hat := runesAt s.data.toList k (by rw [hlen]; exact hlt)
      have hnx := next_any s k wr (by unfold maxLen; omega) hTr
      unfold NextRet at hnx
      rw [next_in _ k (by rw [hlen]; exact hlt)] at hnx
      have hle := decodeL_rune (s.data.toList.drop k)
      rw [hat] at hpre
      rw [hlen] at hst
      clear hat hlen
      generalize hdr : decodeL (s.data.toList.drop k) = d at *
      have HDR := Lib.hid hdr; clear hdr
      obtain ⟨rr, nn⟩ := d
      dsimp only at *
      obtain ⟨hst1, hst2⟩ := hst
      have HP : Hid ((pre ++ [(k, (rr : Int))]) ++ runesFrom (k + nn) (s.data.toList.drop (k + nn)) = runesL s.data.toList) := by
        unfold Hid; refine Eq.trans ?_ hpre.out; simp
      have HX : Hid (NxR s.data.toList pre (k, (rr : Int))) := Lib.hid ⟨_, hpre.out⟩
      have HN := Lib.hid hnx; clear hnx
      gi_wp2_with fail
      refine ⟨trivial, ?_⟩
      refine (callsIn_wide.2 HN.out).mono ?_
      rintro e w2 ⟨rfl, hb2⟩
      have hJ2 : J pre w2 := HJ.out _ _ _ none hJs (only_of_below hb2 none) (fun r e => by cases e)
      have hB2 : Bs < wr.heap.size := by
        have h1 := hkp.2.trans HBS.out
        rcases Nat.lt_or_ge Bs wr.heap.size with h' | h'
        · exact h'
        · rw [Array.getElem?_eq_none h'] at h1; cases h1
      have hkp2 : KpR Bs W w2 := hkp.trans (KpR.below hb2 hTr.2 hB2)
      have hsz2 : W.heap.size ≤ w2.heap.size := Nat.le_trans hsz hb2.size
      obtain ⟨fn, tmps, assign, body, hy, hR⟩ := HY.out pre (k, (rr : Int)) w2 HX.out hJ2
      dsimp only [encP] at hy
      have HKP := Lib.hid hkp2
      clear hkp hkp2 hb2
      gi_wp2
      refine hR.mono ?_
      rintro e W3 ⟨rfl, hJ3, hk3⟩
      have HK3 := Lib.hid hk3; clear hk3
      gi_wp2
      go_roundw
      case rel => exact ⟨k + nn, _, hst2, by go_num, hJ3, HP, HKP.out.trans HK3.out, Nat.le_trans hsz2 HK3.out.1.size⟩
      case measure => simp [RowKit.intOf]; omega
    · obtain rfl : k = s.size := by omega
      have hfin : pre = runesL s.data.toList := by
        have := hpre.out
        rw [runesEnd _ _ (by rw [hlen]; exact Nat.le_refl _), List.append_nil] at this
        exact this
      have HF := Lib.hid hfin
      clear hfin hlen
      gi_wp2
      go_end0
      exact ⟨⟨_, rfl⟩, _, HF.out, hJs⟩

/-- THE ITERATOR'S CONTRACT. -/
theorem runes_gives (Bs : Nat) (s : ByteArray) (hs : s.size ≤ 9223372036854775807) (w : World) (hBs : w.heap[Bs]? = some (.cells #[.string s] 9 (0, 0))) (hT : Tabs w) :
    Gives Fence.wide 5 Tryd.prog 72 #[.pointer (some ⟨Bs, 0, none⟩)] encP (KpR Bs) (NxR s.data.toList) (fun xs => xs = runesL s.data.toList) w := fun l J W hW hJ hY h0 => by
  have hlt : Bs < w.heap.size := by
    rcases Nat.lt_or_ge Bs w.heap.size with h' | h'
    · exact h'
    · rw [Array.getElem?_eq_none h'] at hBs; cases hBs
  exact runes1_gives l Bs s hs J W hJ hY ((hW.block Bs hlt).trans hBs) (hT.next hW) h0
end Go.Proofs.YtfbedonphhiolaaDoor.Ana
