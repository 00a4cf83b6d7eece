/- The walk of the law FoldWhole. -/
import Derived.Test.YtdgmgedecnbmdaaDoorFoldEarlyWalk
import Derived.Test.YtdgmgedecnbmdaaDoorFoldBackP
import Derived.BigGuardIn
namespace Go.Proofs.YtdgmgedecnbmdaaDoor.FoldLaws
open Go.RowKit Go.Lib FoldP FoldInts Kit FoldForms FoldNext FoldIter FoldValid FoldPut Words Owned

attribute [local go_sem] Oper.semAt_some

theorem dec_facts (l : List UInt8) : Lib.validRune ((decodeL l).1 : Int) = true ∧ (decodeL l).2 ≤ 4 := by
  have k0 := (l.getD 0 0).toNat_lt
  rw [decodeL_N]
  unfold Lib.validRune
  rw [decide_eq_true_eq]
  rcases decodeN_shape l.length (l.getD 0 0).toNat (l.getD 1 0).toNat (l.getD 2 0).toNat (l.getD 3 0).toNat with ⟨c, e⟩ | ⟨c1, c2, c3, cv, e⟩ | ⟨c1, c2, c3, c4, cv, cs, e⟩ | ⟨c1, c2, c3, c4, c5, cv, cw, e⟩ | e
  all_goals (rw [e]; dsimp only; omega)
theorem boxed_below {W W' : World} {B b : Nat} {t : TypeId} {v : Value} (h : Below B W W') (hB : b < B) (hx : Boxed W b t v) : Boxed W' b t v := (h.block b hB).trans hx

theorem put_form (r : Int) (f : ByteArray) (hv : Lib.validRune r = true) (hf : f = str (encodeRune r)) (w : World) :
    Calls Tryd.prog 18 #[.int .i32 r] w (fun e w' => e = .returned (.tuple #[.string f, .int .i64 0]) ∧ Below w.heap.size w w') := by
  have h := (valid_iff r).1 hv
  refine (put_any r (by omega) (by omega) w).mono fun e w' h => ?_
  unfold PutRet at h; rw [putS_yes hv, putE_yes hv] at h
  rw [hf]; exact h

/-- What stands while the loop goes over the runes: it stands at k; what has been written again is the text's beginning. -/
def WholeI (s : ByteArray) (w : World) (n1 n2 : Nat) (pre : List (RuneOf s.data.toList)) (W : World) : Prop :=
  ∃ (k : Nat) (b : Bool), k ≤ s.size ∧ pre.map (·.1) ++ runesFrom k (s.data.toList.drop k) = runesL s.data.toList ∧ validD s.data.toList = (!b && validD (s.data.toList.drop k)) ∧
    Boxed W w.heap.size 9 (.string s) ∧ Boxed W (w.heap.size + 1) 4 (.bool false) ∧ Boxed W n1 3 (.int .i64 (k : Int)) ∧ Boxed W (n1 + 1) 9 (.string (s.extract 0 k)) ∧
    Boxed W n2 4 (.bool b) ∧ Boxed W (n2 + 1) 9 (.string s) ∧ Below w.heap.size w W
theorem wholeI_own (s : ByteArray) (w : World) (n1 n2 B : Nat) (hn : w.heap.size + 2 ≤ n1) (hn2 : n1 + 2 ≤ n2) (hB : n2 + 2 ≤ B) : OwnFrom B (WholeI s w n1 n2) := by
  rintro pre W W' row ⟨k, b, hk, hp, hv, h0, h1, h2, h3, h4, h5, h6⟩ hg hr
  exact ⟨k, b, hk, hp, hv, h0.kept hg (fun e => by have := (hr _ e.symm).1; omega), h1.kept hg (fun e => by have := (hr _ e.symm).1; omega), h2.kept hg (fun e => by have := (hr _ e.symm).1; omega),
    h3.kept hg (fun e => by have := (hr _ e.symm).1; omega), h4.kept hg (fun e => by have := (hr _ e.symm).1; omega), h5.kept hg (fun e => by have := (hr _ e.symm).1; omega), h6.grown hg h6.size (fun k e => by have := (hr k e).1; omega)⟩

/-- A round's end. -/
theorem whole_step {s : ByteArray} {w : World} {n1 n2 : Nat} {pre : List (RuneOf s.data.toList)} {x : RuneOf s.data.toList} {W U : World} {v2 v3 : Value} {b : Bool} {k : Nat} {i : Int} {st : ByteArray}
    (hs1 : w.heap.size + 2 ≤ n1) (hs2 : n1 + 2 ≤ n2) (h2 : 2 ≤ w.heap.size) (hk : KeepsOthers W U) (hkp : KpR (n2 + 1) W U) (hb : Below w.heap.size w U)
    (y0 : Boxed U w.heap.size 9 (.string s)) (y1 : Boxed U (w.heap.size + 1) 4 (.bool false)) (y2 : Boxed U n1 3 v2) (y3 : Boxed U (n1 + 1) 9 v3) (y4 : Boxed U n2 4 (.bool b)) (y5 : Boxed U (n2 + 1) 9 (.string s))
    (hi : i = (k : Int)) (hst : st = s.extract 0 k) (hle : k ≤ s.size) (hp : (pre ++ [x]).map (·.1) ++ runesFrom k (s.data.toList.drop k) = runesL s.data.toList) (hv : validD s.data.toList = (!b && validD (s.data.toList.drop k))) :
    KeepsOthers W ((U.setCell ⟨n1 + 1, 0, none⟩ (.string st)).setCell ⟨n1, 0, none⟩ (.int .i64 i)) ∧ KpR (n2 + 1) W ((U.setCell ⟨n1 + 1, 0, none⟩ (.string st)).setCell ⟨n1, 0, none⟩ (.int .i64 i)) ∧
      WholeI s w n1 n2 (pre ++ [x]) ((U.setCell ⟨n1 + 1, 0, none⟩ (.string st)).setCell ⟨n1, 0, none⟩ (.int .i64 i)) := by
  subst hi hst
  refine ⟨(hk.trans (KeepsOthers.setCell _ _ _)).trans (KeepsOthers.setCell _ _ _),
    (hkp.trans ⟨(Below.refl _ _).setCell (by show 2 ≤ n1 + 1; omega) _, Below.heap_setCell _ _ _ _ (by show n2 + 1 ≠ n1 + 1; omega)⟩).trans ⟨(Below.refl _ _).setCell (by show 2 ≤ n1; omega) _, Below.heap_setCell _ _ _ _ (by show n2 + 1 ≠ n1; omega)⟩,
    k, b, hle, hp, hv, ?_, ?_, ?_, ?_, ?_, ?_, (hb.setCell (by show w.heap.size ≤ n1 + 1; omega) _).setCell (by show w.heap.size ≤ n1; omega) _⟩
  · exact boxed_far (boxed_far y0 (by show w.heap.size ≠ n1 + 1; omega) _) (by show w.heap.size ≠ n1; omega) _
  · exact boxed_far (boxed_far y1 (by show w.heap.size + 1 ≠ n1 + 1; omega) _) (by show w.heap.size + 1 ≠ n1; omega) _
  · exact boxed_set (boxed_far y2 (by show n1 ≠ n1 + 1; omega) _) _
  · exact boxed_far (boxed_set y3 _) (by show n1 + 1 ≠ n1; omega) _
  · exact boxed_far (boxed_far y4 (by show n2 ≠ n1 + 1; omega) _) (by show n2 ≠ n1; omega) _
  · exact boxed_far (boxed_far y5 (by show n2 + 1 ≠ n1 + 1; omega) _) (by show n2 + 1 ≠ n1; omega) _

set_option maxRecDepth 100000 in
set_option maxHeartbeats 2000000 in
theorem foldWhole_in (s : ByteArray) (w : World) (hs : s.size ≤ maxLen) (hT : Tabs w) :
    CallsIn Fence.wide 6 Tryd.prog 6 #[.string s] w (TrueBelow w) := by
  have HT := Lib.hid hT; clear hT
  have hs' : s.size ≤ 9223372036854775807 := by unfold maxLen at hs; omega
  refine callsIn_of_wp_marks Tryd.func6 rfl trivial ?_ rfl
  simp only [Tryd.ntmps6, List.size_toArray, List.length_cons, List.length_nil, Nat.reduceAdd, Nat.reduceSub, Array.replicate_succ, Array.replicate_zero, List.push_toArray, List.append_toArray, List.nil_append, List.cons_append]
  gi_wp2_with fail
  refine ⟨trivial, ?_⟩
  have hbA : Below w.heap.size w ((w.alloc (.cells #[.string s] 9)).alloc (.cells #[.bool false] 4)) := ((Below.refl _ _).alloc (Nat.le_refl _) _).alloc (by simp) _
  have hxA := (Boxed.new w 9 (.string s)).alloc (.cells #[.bool false] 4)
  have hxB := Boxed.new (w.alloc (.cells #[.string s] 9)) 4 (.bool false)
  simp only [World.size_alloc] at hxB
  refine (callsIn_wide.2 (known_any _ (HT.out.next hbA))).mono ?_
  rintro e w1 ⟨rfl, hb⟩
  have HB1 : Hid (Below w.heap.size w w1) := Lib.hid (hbA.trans (hb.mono (by simp; omega)))
  have hs1 : w.heap.size + 2 ≤ w1.heap.size := by have := hb.size; simp at this; omega
  have hx0 : Boxed w1 w.heap.size 9 (.string s) := (hb.block _ (by simp; omega)).trans hxA
  have hx1 : Boxed w1 (w.heap.size + 1) 4 (.bool false) := (hb.block _ (by simp)).trans hxB
  have y0 := (hx0.alloc (.cells #[.int .i64 0] 3)).alloc (.cells #[.string ⟨#[]⟩] 9)
  have y1 := (hx1.alloc (.cells #[.int .i64 0] 3)).alloc (.cells #[.string ⟨#[]⟩] 9)
  have y2 := (Boxed.new w1 3 (.int .i64 0)).alloc (.cells #[.string ⟨#[]⟩] 9)
  have y3 := Boxed.new (w1.alloc (.cells #[.int .i64 0] 3)) 9 (.string ⟨#[]⟩)
  have yB := (HB1.out.alloc (by omega) (.cells #[.int .i64 0] 3)).alloc (by simp; omega) (.cells #[.string ⟨#[]⟩] 9)
  have hsz : ((w1.alloc (.cells #[.int .i64 0] 3)).alloc (.cells #[.string ⟨#[]⟩] 9)).heap.size = w1.heap.size + 2 := by simp
  simp only [World.size_alloc] at y3
  have hn1 : ∃ n1, w1.heap.size = n1 := ⟨_, rfl⟩
  obtain ⟨n1, hn1⟩ := hn1
  simp only [hn1] at y2 y3 hsz hs1
  have k0 := y0.cell
  clear hb hxA hxB hbA hx0 hx1
  gi_wp2_with fail
  have hw0 : ∃ W0, ((w1.alloc (.cells #[.int .i64 0] 3)).alloc (.cells #[.string ⟨#[]⟩] 9)) = W0 := ⟨_, rfl⟩
  obtain ⟨W0, hW0⟩ := hw0
  rw [hW0] at y0 y1 y2 y3 yB hsz k0 ⊢
  clear hW0 HB1 hn1
  clear w1
  refine ⟨trivial, ?_⟩
  refine (callsIn_wide.2 (valid_any s W0 hs' (HT.out.next yB))).mono ?_
  rintro e w2 ⟨rfl, hb⟩
  have hs2 : n1 + 2 ≤ w2.heap.size := by have := hb.size; omega
  have z0 := (boxed_below hb (by omega) y0).alloc (.cells #[.bool false] 4)
  have z1 := (boxed_below hb (by omega) y1).alloc (.cells #[.bool false] 4)
  have z2 := (boxed_below hb (by omega) y2).alloc (.cells #[.bool false] 4)
  have z3 := (boxed_below hb (by omega) y3).alloc (.cells #[.bool false] 4)
  have z4 := Boxed.new w2 4 (.bool false)
  have zB := (yB.trans (hb.mono (by omega))).alloc (by omega) (.cells #[.bool false] 4)
  have k1 := z0.cell
  clear y0 y1 y2 y3 yB hb k0 hsz
  clear W0
  gi_wp2_with fail
  refine ⟨trivial, ?_⟩
  refine (runes_in _ _ _).mono ?_
  rintro e w' ⟨rfl, rfl⟩
  gi_wp2_with fail
  have hi0 : WholeI s w n1 w2.heap.size [] ((w2.alloc (.cells #[.bool false] 4)).alloc (.cells #[.string s] 9)) := by
    have hx5 := Boxed.new (w2.alloc (.cells #[.bool false] 4)) 9 (.string s)
    simp only [World.size_alloc] at hx5
    exact ⟨0, false, Nat.zero_le _, rfl, by simp, z0.alloc _, z1.alloc _, z2.alloc _, by rw [show s.extract 0 0 = ⟨#[]⟩ from by apply ByteArray.ext; simp]; exact z3.alloc _, z4.alloc _, hx5, zB.alloc (by simp; omega) _⟩
  have hsz : ((w2.alloc (.cells #[.bool false] 4)).alloc (.cells #[.string s] 9)).heap.size = w2.heap.size + 2 := by simp
  have hw0 : ∃ W0, ((w2.alloc (.cells #[.bool false] 4)).alloc (.cells #[.string s] 9)) = W0 := ⟨_, rfl⟩
  obtain ⟨W0, hW0⟩ := hw0
  have hx5 : Boxed ((w2.alloc (.cells #[.bool false] 4)).alloc (.cells #[.string s] 9)) (w2.heap.size + 1) 9 (.string s) := by
    have hx5 := Boxed.new (w2.alloc (.cells #[.bool false] 4)) 9 (.string s)
    simpa only [World.size_alloc] using hx5
  have zB2 := zB.alloc (by simp; omega) (.cells #[.string s] 9)
  rw [hW0] at hi0 hsz hx5 zB2 ⊢
  have hT0 : Tabs W0 := HT.out.next zB2
  have h2w : 2 ≤ w.heap.size := HT.out.2
  clear hW0 z0 z1 z2 z3 z4 zB k1
  have hn2 : ∃ n2, w2.heap.size = n2 := ⟨_, rfl⟩
  obtain ⟨n2, hn2⟩ := hn2
  simp only [hn2] at hi0 hsz hx5 hs2 ⊢
  clear hn2
  clear w2
  refine' wpIn_rangeFunc_ownF rfl (by omega) (gf := 27) (lb := #[.pointer (some ⟨n2 + 1, 0, none⟩)]) rfl trivial (enters_of Tryd.func27 (by kernel_rfl) rfl)
    (runes_stops (n2 + 1) s hs' W0 hx5 hT0) KpR.trans (kpR_b (by omega) (by omega)) (Below.refl _ _) (fun _ => rfl)
    (WholeI s w n1 n2)
    (fun c pre W => ¬ someR s.data.toList pre)
    (wholeI_own s w n1 n2 _ hs1 hs2 (by omega))
    (fun c pre A B row hI _ _ => hI)
    hi0 _ ?assign ?body ?done ?stop
  case assign =>
    intro l x W K hK
    dsimp only [encR]
    gi_wp2
    exact hK
  case body =>
    rintro l0 pre x W ⟨k, b, hk, hp, hv, h0, h1, h2, h3, h4, h5, hB⟩ hlt
    have hlen : s.data.toList.length = s.size := by simp
    have hlt2 : k < s.size := by
      rcases Nat.lt_or_ge k s.size with h | h
      · exact h
      · rw [runesEnd _ _ (by rw [hlen]; exact h), List.append_nil] at hp
        have := congrArg List.length hp; simp at this; omega
    have hst := step_le s.data.toList k (by rw [hlen]; exact hlt2)
    have hat := runesAt s.data.toList k (by rw [hlen]; exact hlt2)
    have hva := validAt s.data.toList k (by rw [hlen]; exact hlt2)
    have hne : s.data.toList.drop k ≠ [] := by intro e; have := congrArg List.length e; simp at this; omega
    have hen := encode_decode _ hne
    have hdf := dec_facts (s.data.toList.drop k)
    have hle := decodeL_rune (s.data.toList.drop k)
    rw [hlen] at hst
    rw [hat] at hp
    rw [hva] at hv
    clear hat hva hlen
    have HX := runesL_mem x.2
    obtain ⟨⟨p, r⟩, hmem⟩ := x
    cases hdr : decodeL (s.data.toList.drop k) with
    | mk rr nn =>
    rw [hdr] at hst hp hv hen hdf hle
    dsimp only at hst hp hv hen HX hdf hle
    obtain ⟨hdf1, hdf2⟩ := hdf
    obtain ⟨hst1, hst2⟩ := hst
    have k0 := h0.cell
    have k2 := h2.cell
    have k2f := h2.frozen
    have k1 := h1.cell
    have k1f := h1.frozen
    have k3 := h3.cell
    have k3f := h3.frozen
    have k4 := h4.cell
    have k4f := h4.frozen
    by_cases hpk : p = k
    · subst hpk
      obtain rfl : r = (rr : Int) := by rw [HX.2, hdr]
      have HN := Lib.hid (next_at s p W hs' (HT.out.next hB) hlt2 rr nn hdr)
      have HPV := Lib.hid hdf1
      have HP := Lib.hid hp
      have HV := Lib.hid hv
      have HEN := Lib.hid hen
      clear hdf1 hp hv hen hdr hne HX
      have c1b : decide ((nn : Int) < 1) = false := by simp; omega
      have c2b : decide (4 < (nn : Int)) = false := by simp; omega
      have c3b : decide ((s.size : Int) < (p : Int) + (nn : Int)) = false := by rw [decide_eq_false_iff_not]; omega
      gi_wp2_with fail
      refine ⟨trivial, ?_⟩
      refine CallsIn.inRound l0 (callsIn_wide.2 HN.out) |>.mono ?_
      rintro e w2 ⟨rfl, hb2⟩
      have k0' := (boxed_below hb2 (Array.getElem?_eq_some_iff.1 h0).1 h0).cell
      have k2' := (boxed_below hb2 (Array.getElem?_eq_some_iff.1 h2).1 h2).cell
      have HB2 := Lib.hid hb2; clear hb2
      gi_wp2_with fail
      refine ⟨trivial, ?_⟩
      have hf : ∃ f, f = str (encodeRune (rr : Int)) := ⟨_, rfl⟩
      obtain ⟨f, hf⟩ := hf
      refine CallsIn.inRound l0 (callsIn_wide.2 (put_form rr f HPV.out hf w2)) |>.mono ?_
      rintro e w3 ⟨rfl, hb3⟩
      have HF := Lib.hid hf; clear hf
      have hb13 := HB2.out.trans (hb3.mono HB2.out.size)
      have y0 := boxed_below hb13 h0.lt h0
      have y1 := boxed_below hb13 h1.lt h1
      have y2 := boxed_below hb13 h2.lt h2
      have y3 := boxed_below hb13 h3.lt h3
      have y4 := boxed_below hb13 h4.lt h4
      have y5 := boxed_below hb13 h5.lt h5
      have hkp3 : KpR (n2 + 1) W w3 := KpR.below hb13 (by have := h0.lt; omega) h5.lt
      have hbw3 : Below w.heap.size w w3 := hB.trans (hb13.mono hB.size)
      have hko3 : KeepsOthers W w3 := keepsOthers_below hb13
      clear hb3 hb13 hB k0 k1 k2 k3 k4 k2f k1f k3f k4f k0' k2' h0 h1 h2 h3 h4 h5
      have k0 := y0.cell
      have k2 := y2.cell
      have k2f := y2.frozen
      have k3 := y3.cell
      have k3f := y3.frozen
      have k4 := y4.cell
      have k4f := y4.frozen
      by_cases ho : rr = 65533 ∧ nn = 1
      · have c4b : ((rr : Int) == 65533) = true := by rw [beq_iff_eq]; omega
        have c5b : ((nn : Int) == 1) = true := by rw [beq_iff_eq]; omega
        have c6b : ((s.extract p (p + 1)).toList == (s.extract p (p + nn)).toList) = true := by rw [ho.2, beq_iff_eq]
        have HO := Lib.hid ho; clear ho
        gi_wp2_with fail
        refine whole_step (b := true) (k := p + nn) hs1 hs2 h2w (hko3.trans (KeepsOthers.setCell _ _ _)) (hkp3.trans ⟨(Below.refl _ _).setCell (by show 2 ≤ n2; omega) _, Below.heap_setCell _ _ _ _ (by show n2 + 1 ≠ n2; omega)⟩) (hbw3.setCell (by show w.heap.size ≤ n2; omega) _)
          (boxed_far y0 (by show w.heap.size ≠ n2; omega) _) (boxed_far y1 (by show w.heap.size + 1 ≠ n2; omega) _) (boxed_far y2 (by show n1 ≠ n2; omega) _) (boxed_far y3 (by show n1 + 1 ≠ n2; omega) _) (boxed_set y4 _) (boxed_far y5 (by show n2 + 1 ≠ n2; omega) _)
          (by omega) (by rw [HO.out.2]) hst2 (Eq.trans (by simp) HP.out) (by rw [HV.out, if_pos HO.out]; simp)
      · have hfe : f = s.extract p (p + nn) := by
          rw [HF.out, HEN.out ho]
          apply ByteArray.ext
          apply Array.ext'
          rw [extract_data, show p + nn - p = nn by omega]
          rfl
        subst hfe
        have c6b : ((s.extract p (p + nn)).toList == (s.extract p (p + nn)).toList) = true := by rw [beq_iff_eq]
        by_cases ho1 : rr = 65533
        · have c4b : ((rr : Int) == 65533) = true := by rw [beq_iff_eq]; omega
          have c5b : ((nn : Int) == 1) = false := by rw [beq_eq_false_iff_ne]; omega
          have HO := Lib.hid ho; clear ho ho1
          gi_wp2_with fail
          exact whole_step (b := b) (k := p + nn) hs1 hs2 h2w hko3 hkp3 hbw3 y0 y1 y2 y3 y4 y5 (by omega) rfl hst2 (Eq.trans (by simp) HP.out) (by rw [HV.out, if_neg HO.out])
        · have c4b : ((rr : Int) == 65533) = false := by rw [beq_eq_false_iff_ne]; omega
          have HO := Lib.hid ho; clear ho ho1
          gi_wp2_with fail
          exact whole_step (b := b) (k := p + nn) hs1 hs2 h2w hko3 hkp3 hbw3 y0 y1 y2 y3 y4 y5 (by omega) rfl hst2 (Eq.trans (by simp) HP.out) (by rw [HV.out, if_neg HO.out])
    · have hpb : ((p : Int) != (k : Int)) = true := by rw [bne_iff_ne]; omega
      have hlp : p < s.size := by have := HX.1; simpa using this
      have hnot : ¬ someR s.data.toList (pre ++ [⟨(p, r), hmem⟩]) := by
        rintro ⟨rest, hr⟩
        have hq := hp.trans hr.symm
        rw [List.map_append, List.append_assoc] at hq
        have := List.append_cancel_left hq
        simp at this
        exact hpk this.1.1.symm
      have HNOT := Lib.hid hnot
      cases hd2 : decodeL (s.data.toList.drop p) with
      | mk r2 n2' =>
      have HN := Lib.hid (next_at s p W hs' (HT.out.next hB) hlp r2 n2' hd2)
      clear hnot hp hv hen hdr hne HX hdf1 hpk hd2
      gi_wp2_with fail
      refine ⟨trivial, ?_⟩
      refine CallsIn.inRound l0 (callsIn_wide.2 HN.out) |>.mono ?_
      rintro e w2 ⟨rfl, hb2⟩
      have y0 := boxed_below hb2 h0.lt h0
      have y1 := boxed_below hb2 h1.lt h1
      have y2 := boxed_below hb2 h2.lt h2
      have hko := keepsOthers_below hb2
      clear k0 k1 k2 k3 k4 k2f k1f k3f k4f h0 h1 h2 h3 h4 h5 hb2
      have k0 := y0.cell
      have k2 := y2.cell
      have k1 := y1.cell
      have k1f := y1.frozen
      gi_wp2_with fail
      exact ⟨hko.trans (KeepsOthers.setCell _ _ _), HNOT.out⟩
  case done =>
    rintro D ys W hD hall ⟨k, b, hk, hp, hv, h0, h1, h2, h3, h4, h5, hB⟩ hK
    have hkz : k = s.size := by
      rcases Nat.lt_or_ge k s.size with h | h
      · have hat := runesAt s.data.toList k (by simpa using h)
        rw [hat] at hp
        have h' : ys.map (·.1) = runesL s.data.toList := hall
        have := congrArg List.length hp
        rw [h'] at this
        simp at this
      · omega
    subst hkz
    have hvb : validD s.data.toList = !b := by
      rw [hv, List.drop_eq_nil_of_le (by simp)]; simp [validD_nil]
    have hex : s.extract 0 s.size = s := by apply ByteArray.ext; simp
    rw [hex] at h3
    clear hv hex hall hp
    have k0 := h0.cell
    have k2 := h2.cell
    have k3 := h3.cell
    have k4 := h4.cell
    have k1 := h1.cell
    have k1f := h1.frozen
    have c1 : (s.toList == s.toList) = true := by rw [beq_iff_eq]
    have c2 : ((s.size : Int) == (s.size : Int)) = true := by rw [beq_iff_eq]
    have c3 : (validD s.data.toList == !b) = true := by rw [hvb, beq_iff_eq]
    clear hvb
    gi_wp2_with fail
    have hK2 := (KeepsOthers.setCell W ⟨w.heap.size + 1, 0, none⟩ (.bool true)).same D _ hK rfl
    refine ⟨by simp, .inl ⟨_, _, rfl, run_takeDeferred hK2, ?_⟩⟩
    have hc5 := cell_kept (World.cell?_setCell_same' W ⟨w.heap.size + 1, 0, none⟩ (.bool true) (by rw [k1]; rfl)) (grownBy_putObj' _ D (.deferred none)) (fun r e => by cases e; exact ⟨_, hK2, rfl⟩)
    refine ⟨.bool true, ?_, rfl, (hB.setCell (p := ⟨w.heap.size + 1, 0, none⟩) (Nat.le_succ _) _).trans (belowK_b (w := w) (Nat.le_refl _) _ D _ _ (by omega) hK2 rfl rfl)⟩
    simp [results, Tryd.f6, go_sem, hc5]
  case stop =>
    rintro D c pre W hD hp h _
    exact (h hp).elim
theorem foldWhole_walk (s : ByteArray) (w : World) (hs : s.size ≤ maxLen) (hT : Tabs w) :
    Calls Tryd.prog 6 #[.string s] w (TrueBelow w) := callsIn_wide.1 (foldWhole_in s w hs hT)
end Go.Proofs.YtdgmgedecnbmdaaDoor.FoldLaws
