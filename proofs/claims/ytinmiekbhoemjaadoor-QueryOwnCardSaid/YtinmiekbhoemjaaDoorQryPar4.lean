/- Contract: the parser's several numbers. -/
import Derived.Test.YtinmiekbhoemjaaDoorQryPar3
import Derived.Test.YtinmiekbhoemjaaDoorRowX
set_option linter.unusedVariables false
namespace Go.Proofs.YtinmiekbhoemjaaDoor.Qry
open Go.RowKit Words Tree QryP Kit Sch SchP Owned

/-- More numbers, behind one. -/
def sevT (r : R) : E (List Int × R) := match skipS r with
  | [] => .ok ([], [])
  | c :: t => if ¬ (c = 45 ∨ digB c = true) then .ok ([], c :: t) else if (c :: t).length = r.length then .error (r.length, 180) else sevS numT parT (r.length + 1) (c :: t)
def preS (l0 : List Int) : E (List Int × R) → E (List Int × R)
  | .ok (l, r) => .ok (l0 ++ l, r)
  | .error e => .error e
theorem preS_pre (a b : List Int) (x : E (List Int × R)) : preS a (preS b x) = preS (a ++ b) x := by
  match x with
  | .ok (l, r) => simp [preS]
  | .error e => rfl
theorem sev_first (m : Nat) (r : R) (h : r.length < m) : sevS numT parT m r = match numS numT parT r with
    | .error e => .error e
    | .ok (n, r1) => preS [n] (sevT r1) := by
  obtain ⟨m, rfl⟩ : ∃ m', m = m' + 1 := ⟨m - 1, by omega⟩
  unfold sevS
  have hn := num_fine (num := numT) (par := parT) r
  match hx : numS numT parT r, hn with
  | .error e, _ => rfl
  | .ok (n, r1), hn =>
    replace hn : r1.length ≤ r.length := hn
    dsimp only
    unfold sevT
    have hs := skip_le r1
    cases hk : skipS r1 with
    | nil => rfl
    | cons c t =>
      rw [hk] at hs
      dsimp only
      by_cases h1 : c = 45 ∨ digB c = true
      · rw [if_neg (not_not_intro h1), if_neg (not_not_intro h1)]
        by_cases h2 : (c :: t).length = r1.length
        · rw [if_pos h2, if_pos h2]; rfl
        · rw [if_neg h2, if_neg h2]
          simp only [List.length_cons] at *
          rw [sev_fuel m (r1.length + 1) (c :: t) (by simp; omega) (by simp; omega)]
          match sevS numT parT (r1.length + 1) (c :: t) with
          | .ok (l, r2) => rfl
          | .error e => rfl
      · rw [if_pos h1, if_pos h1]; rfl
theorem sevT_nil {r : R} (h : skipS r = []) : sevT r = .ok ([], []) := by unfold sevT; rw [h]
theorem sevT_stop {r : R} {c : UInt8} {t : R} (h : skipS r = c :: t) (hc : ¬ (c = 45 ∨ digB c = true)) : sevT r = .ok ([], c :: t) := by unfold sevT; rw [h]; exact if_pos hc
theorem sevT_bad {r : R} {c : UInt8} {t : R} (h : skipS r = c :: t) (hc : c = 45 ∨ digB c = true) (hl : (c :: t).length = r.length) : sevT r = .error (r.length, 180) := by
  unfold sevT; rw [h]; dsimp only; rw [if_neg (not_not_intro hc), if_pos hl]
theorem sevT_more {r : R} {c : UInt8} {t : R} (h : skipS r = c :: t) (hc : c = 45 ∨ digB c = true) (hl : (c :: t).length ≠ r.length) : sevT r = match numS numT parT (c :: t) with
    | .error e => .error e
    | .ok (n, r1) => preS [n] (sevT r1) := by
  rw [← sev_first (r.length + 1) (c :: t) (by have := skip_le r; rw [h] at this; omega)]
  conv => lhs; unfold sevT
  rw [h]; dsimp only; rw [if_neg (not_not_intro hc), if_neg hl]
theorem reads_newP (w : World) (t : TypeId) (cs : List Value) (n : Nat) (hn : cs.length = n) : Reads (w.alloc (.cells cs.toArray t)) (w.heap.size + 1) 1 (some ⟨w.heap.size, 0, none⟩) n cs := by
  subst hn
  exact ⟨by simp, fun _ => ⟨_, rfl, Nat.lt_succ_self _, World.news_of_block (Blk.new w t cs.toArray)⟩⟩
/-- A row of the call's own (from block B on) has grown: all else stands. -/
theorem grown_own {w w1 w2 : World} {B gp n m : Nat} {e : TypeId} {v : Value} {xs : List Value} (hg : w.grownBy w1 (some gp)) (hB : w.heap.size ≤ B) (ho : w1.ownsRow B e m v n xs) (h2 : w1.grownBy w2 v.ownBlock) : w.grownBy w2 (some gp) :=
  ⟨h2.os.trans hg.os, h2.tape.trans hg.tape, h2.output.trans hg.output, Nat.le_trans hg.size h2.size, fun i hi hne => (h2.block i (Nat.lt_of_lt_of_le hi hg.size) (fun e => by have := (ho.lt i e.symm).1; omega)).trans (hg.block i hi hne)⟩
theorem infoI64 : (Tryd.prog.info? 2).map (fun i => (i.zero, i.size, i.bytes)) = some (some (.int .i64 0), 1, 8) := by kernel_rfl
/-- A row of numbers of the call's own is answered. -/
theorem RowI.grown {w w' : World} {B gp : Nat} {v : Value} {l : List Int} (h : RowI w B v l) (hg : w.grownBy w' (some gp)) (hgp : gp < B) : RowI w' B v l :=
  own_keep' h fun g hv => hg.block g (World.ownsRow.lt h g hv).2 (fun e => by injection e with e; have := (World.ownsRow.lt h g hv).1; omega)
theorem RowI.below {w w' : World} {B : Nat} {v : Value} {l : List Int} (h : RowI w B v l) (hb : Below w.heap.size w w') : RowI w' B v l :=
  own_keep' h fun g hv => hb.block g (World.ownsRow.lt h g hv).2
def NumsV (B : Nat) (l : List Int) (v : Value) (w : World) : Prop := RowI w B v l ∧ ∀ z ∈ l, I64 z
theorem sign_cases (c : UInt8) : ((c = 45 ∨ digB c = true) ∧ ((c.toNat : Int) == 45) = true) ∨ ((c = 45 ∨ digB c = true) ∧ ((c.toNat : Int) == 45) = false ∧ decide ((c.toNat : Int) < 48) = false ∧ decide (57 < (c.toNat : Int)) = false) ∨
    (¬ (c = 45 ∨ digB c = true) ∧ ((c.toNat : Int) == 45) = false ∧ decide ((c.toNat : Int) < 48) = true) ∨ (¬ (c = 45 ∨ digB c = true) ∧ ((c.toNat : Int) == 45) = false ∧ decide ((c.toNat : Int) < 48) = false ∧ decide (57 < (c.toNat : Int)) = true) := by
  by_cases h0 : c = 45
  · exact .inl ⟨.inl h0, by rw [h0]; rfl⟩
  · have e0 : ((c.toNat : Int) == 45) = false := by
      rw [beq_eq_false_iff_ne]; intro e; exact h0 (UInt8.toNat_inj.1 (by show c.toNat = 45; omega))
    by_cases h1 : c.toNat < 48
    · exact .inr (.inr (.inl ⟨fun h => h.elim h0 (fun h => by have := of_decide_eq_true h; omega), e0, decide_eq_true (by omega)⟩))
    · by_cases h2 : 57 < c.toNat
      · exact .inr (.inr (.inr ⟨fun h => h.elim h0 (fun h => by have := of_decide_eq_true h; omega), e0, decide_eq_false (by omega), decide_eq_true (by omega)⟩))
      · exact .inr (.inl ⟨.inr (decide_eq_true ⟨by omega, by omega⟩), e0, decide_eq_false (by omega), decide_eq_false (by omega)⟩)
set_option maxRecDepth 100000 in
set_option maxHeartbeats 8000000 in
theorem several_any (B : Nat) (s : ByteArray) (gp k : Nat) (w : World) (h : Pa s gp k w) (hs : s.size ≤ 4096) (hB : B ≤ gp) (hT : PT B w) : Calls Tryd.prog 78 #[.pointer (some ⟨gp, 0, none⟩)] w (Out s gp k w (sevS numT parT ((rem s k).length + 1) (rem s k)) fun l v w' => NumsV w.heap.size l v w') := by
  have HN0 := Lib.hid (number_any B s gp k w h hs hB hT)
  have HPT0 := Lib.hid hT
  have hgp : gp < w.heap.size := h.blk.lt
  obtain ⟨x, hx⟩ : ∃ x, sevS numT parT ((rem s k).length + 1) (rem s k) = x := ⟨_, rfl⟩
  rw [hx]
  have HX : Hid (x = match numS numT parT (rem s k) with | .error e => .error e | .ok (n, r1) => preS [n] (sevT r1)) := Lib.hid (by rw [← hx]; exact sev_first _ _ (Nat.lt_succ_self _))
  clear h hT hx
  obtain ⟨y, hy⟩ : ∃ y, numS numT parT (rem s k) = y := ⟨_, rfl⟩
  rw [hy] at HX HN0
  clear hy
  go_enter Tryd.func78, Tryd.ntmps78
  go_wp2_with fail
  refine HN0.out.mono ?_
  clear HN0
  match y with
  | .error (p, c) =>
    intro e w1 ho
    obtain ⟨rfl, hg⟩ := ho
    refine ⟨rfl, ?_⟩
    rw [HX.out]
    exact ⟨rfl, hg⟩
  | .ok (n0, r0) =>
    intro e w1 ho
    obtain ⟨v, rfl, ⟨rfl, hI⟩, hat⟩ := ho
    have HI0 := Lib.hid hI; have HAT := Lib.hid hat
    clear hI hat
    obtain ⟨i0, hi1, hi2, hi3, hi4⟩ := info_parts infoI64
    have HI := Lib.hid (And.intro hi1 (And.intro hi2 (And.intro hi3 hi4)))
    clear hi1 hi2 hi3 hi4
    obtain ⟨j0, hkj0, hpa, hr0⟩ := HAT.out.2
    have hz1 := HAT.out.1.size
    have hA1 := (Below.refl w1.heap.size w1).alloc (Nat.le_refl _) (.cells #[.int .i64 n0] 2)
    have HPA0 := Lib.hid (hpa.keep hA1)
    have HG0 := Lib.hid (grown_trans' HAT.out.1 (only_of_below hA1 (some gp)))
    have HR0 : Hid (NumsV w.heap.size [n0] (.slice (some ⟨w1.heap.size, 0, none⟩) 1 1) (w1.alloc (.cells #[.int .i64 n0] 2))) := Lib.hid ⟨⟨rfl, .inr ⟨w1.heap.size, 1, #[.int .i64 n0], rfl, hz1, Blk.new w1 _ _, Nat.le_refl _, by unfold maxLen; omega, rfl, rfl⟩⟩, by intro z hz; simp only [List.mem_singleton] at hz; subst hz; exact HI0.out⟩
    have HX0 : Hid (x = preS [n0] (sevT (rem s j0))) := Lib.hid (by rw [HX.out, hr0])
    clear hpa hr0 hA1 HX
    go_wp2_with fail
    generalize w1.alloc (.cells #[.int .i64 n0] 2) = w2 at *
    go_loopg [3] (s.size - j0) (fun n v wr => ∃ (j : Nat) (l : List Int), k ≤ j ∧ j ≤ s.size ∧ n = s.size - j ∧ l.length + (s.size - j) ≤ 4097 ∧ Hid (Pa s gp j wr) ∧ Hid (w.grownBy wr (some gp)) ∧ Hid (NumsV w.heap.size l v wr) ∧ Hid (x = preS l (sevT (rem s j))))
    case atStart => exact ⟨j0, [n0], hkj0, HPA0.out.le, rfl, by simp; omega, HPA0, HG0, HR0, HX0⟩
    case round =>
      clear HPA0 HG0 HR0 HX0
      obtain ⟨j, l, hkj, hj, rfl, hll, HJ, HG, HR, HX⟩ := hrel
      obtain ⟨ao, ca, hao⟩ := own_slice HR.out.1
      subst hao
      have c1 : wr.cell? ⟨gp, 1, none⟩ = some (.int .i64 j) := HJ.out.blk.cell 1
      have HSK := Lib.hid (skip_any s gp j wr HJ.out hs)
      go_wp2_with fail
      refine HSK.out.mono ?_
      rintro e w3 ⟨rfl, hg, j2, hjj2, hp, hrem⟩
      have HJ3 := Lib.hid hp
      have HG3 := Lib.hid (grown_trans' HG.out hg)
      have HR3 : Hid (NumsV w.heap.size l (.slice ao l.length ca) w3) := Lib.hid ⟨HR.out.1.grown hg hgp, HR.out.2⟩
      have HREM := Lib.hid hrem
      have hj2 := HJ3.out.le
      clear hg hp hrem HSK c1
      have c0 : w3.cell? ⟨gp, 0, none⟩ = some (.string s) := HJ3.out.blk.cell 0
      have c1 : w3.cell? ⟨gp, 1, none⟩ = some (.int .i64 j2) := HJ3.out.blk.cell 1
      by_cases hlt : j2 < s.size
      · have h1 : (0 : Int) ≤ (j2 : Int) := by omega
        have h2 : (j2 : Int) < (s.size : Int) := by omega
        have dn : ((j2 : Int) == (s.size : Int)) = false := by rw [beq_eq_false_iff_ne]; omega
        have HK := Lib.hid (HREM.out.symm.trans (rem_cons hlt))
        have hsc := sign_cases s[j2]
        have fin : ∀ nq, x = .ok (l, rem s j2) → Out s gp k w x (fun l v w' => NumsV w.heap.size l v w') (.returned (.slice ao l.length ca)) (w3.drewN nq) := fun nq hx => by
          rw [hx]
          exact ⟨_, rfl, ⟨HR3.out.1.below (below_drewN (Below.refl _ _) nq), HR3.out.2⟩, only_drewN HG3.out nq, j2, by omega, HJ3.out.drewN nq, rfl⟩
        have FIN := Lib.hid fin
        clear fin
        rcases hsc with ⟨hc, d1⟩ | ⟨hc, d1, d2, d3⟩ | ⟨hc, d1, d2⟩ | ⟨hc, d1, d2, d3⟩
        all_goals have HC := Lib.hid hc
        all_goals clear hc
        all_goals have dne : ((s[j2].toNat : Int) != 45) = !((s[j2].toNat : Int) == 45) := rfl
        all_goals rw [d1] at dne
        all_goals simp only [Bool.not_true, Bool.not_false] at dne
        rotate_left 2
        iterate 2
          · have HX2 : Hid (x = .ok (l, rem s j2)) := Lib.hid (by rw [HX.out, sevT_stop HK.out HC.out, rem_cons hlt]; simp [preS])
            go_upto_region 4 with fail
            go_quiet (fail)
            go_wp2_with fail
            go_ret
            exact FIN.out _ HX2.out
        all_goals
          go_upto_region 4 with fail
          go_quiet (fail)
          clear d1
          have HJ4 : Hid (Pa s gp j2 (w3.drewN nq)) := Lib.hid (HJ3.out.drewN nq)
          have HG4 : Hid (w.grownBy (w3.drewN nq) (some gp)) := Lib.hid (only_drewN HG3.out nq)
          have HR4 : Hid (NumsV w.heap.size l (.slice ao l.length ca) (w3.drewN nq)) := Lib.hid ⟨HR3.out.1.below (below_drewN (Below.refl _ _) nq), HR3.out.2⟩
          have c1 : (w3.drewN nq).cell? ⟨gp, 1, none⟩ = some (.int .i64 j2) := HJ4.out.blk.cell 1
          generalize w3.drewN nq = w4 at *
          by_cases hjj : j2 = j
          · have dq : ((j2 : Int) == (j : Int)) = true := by rw [hjj]; simp
            have HX2 : Hid (x = .error ((rem s j2).length, 180)) := Lib.hid (by rw [HX.out, sevT_bad HK.out HC.out (by rw [← rem_cons hlt, hjj]), hjj]; rfl)
            have HWR := Lib.hid (wrong_any j2 w4)
            clear hjj
            go_wp2_with fail
            refine HWR.out.mono ?_
            rintro e w5 ⟨rfl, rfl⟩
            refine ⟨rfl, ?_⟩
            rw [HX2.out]
            exact ⟨fault_at hj2 180, HG4.out⟩
          · have dq : ((j2 : Int) == (j : Int)) = false := by rw [beq_eq_false_iff_ne]; omega
            have hlj : j < j2 := by omega
            have HX2 : Hid (x = preS l (match numS numT parT (rem s j2) with | .error e => .error e | .ok (n, r1) => preS [n] (sevT r1))) := Lib.hid (by
              rw [HX.out, sevT_more HK.out HC.out (by rw [← rem_cons hlt, rem_len, rem_len]; omega), ← rem_cons hlt])
            have HN := Lib.hid (number_any B s gp j2 w4 HJ4.out hs hB (HPT0.out.grown HG4.out hB))
            clear hjj
            obtain ⟨y, hy⟩ : ∃ y, numS numT parT (rem s j2) = y := ⟨_, rfl⟩
            rw [hy] at HN HX2
            clear hy
            go_wp2_with fail
            refine HN.out.mono ?_
            clear HN
            match y with
            | .error (p, c) =>
              intro e w5 ho
              obtain ⟨rfl, hg⟩ := ho
              refine ⟨rfl, ?_⟩
              rw [HX2.out]
              exact ⟨rfl, grown_trans' HG4.out hg⟩
            | .ok (n1, r1) =>
              intro e w5 ho
              obtain ⟨v, rfl, ⟨rfl, hI⟩, hg, j5, hj25, hpa, hr5⟩ := ho
              have HI5 := Lib.hid hI
              have HJ5 := Lib.hid hpa
              have HG5 := Lib.hid (grown_trans' HG4.out hg)
              have HR5 : Hid (NumsV w.heap.size l (.slice ao l.length ca) w5) := Lib.hid ⟨HR4.out.1.grown hg hgp, HR4.out.2⟩
              have HX5 : Hid (x = preS (l ++ [n1]) (sevT (rem s j5))) := Lib.hid (by rw [HX2.out, hr5]; dsimp only; rw [preS_pre])
              have hj5 := HJ5.out.le
              clear hI hpa hg hr5
              have hown := own_below HR5.out.1 ((Below.refl _ w5).alloc (Nat.le_refl _) (.cells #[.int .i64 n1] 2))
              have hbs := HG5.out.size
              obtain ⟨hi1, hi2, hi3, hi4⟩ := HI.out
              go_wp2_with (at_builtin; refine wpList_append_any _ rfl (.tmp 72) (.tmp 75) 22 rfl w.heap.size 2 i0 (.int .i64 0) 1 8 Tryd.underlying22 hi1 hi2 hi3 hi4 rfl (by decide) _ _ _ rfl hown _ _ 1 1 [.int .i64 n1] rfl (reads_newP w5 2 [.int .i64 n1] 1 rfl) (by intro u hu; simp only [List.mem_cons, List.not_mem_nil, or_false] at hu; subst hu; rfl) (by unfold maxLen; omega) (by omega) (by simp; omega) ?_)
              intro v6 w6 ho6 hg6 _
              have hga := grown_trans' HG5.out (only_of_below ((Below.refl w5.heap.size w5).alloc (Nat.le_refl _) (.cells #[.int .i64 n1] 2)) (some gp))
              have HG6 : Hid (w.grownBy w6 (some gp)) := Lib.hid (grown_own hga (Nat.le_refl _) hown hg6)
              have HJ6 : Hid (Pa s gp j5 w6) := Lib.hid ((HJ5.out.keep ((Below.refl w5.heap.size w5).alloc (Nat.le_refl _) (.cells #[.int .i64 n1] 2))).grown hg6 (fun e => by have := (World.ownsRow.lt hown gp e).1; omega))
              have HR6 : Hid (NumsV w.heap.size (l ++ [n1]) v6 w6) := Lib.hid ⟨by unfold RowI; rw [List.length_append, List.map_append]; exact ho6, by
                intro z hz
                rcases List.mem_append.1 hz with hz | hz
                · exact HR5.out.2 z hz
                · simp only [List.mem_singleton] at hz; subst hz; exact HI5.out⟩
              clear ho6 hg6 hga hown hi1 hi2 hi3 hi4
              go_wp2_with fail
              go_roundg (s.size - j5)
              case measure => omega
              case rel => exact ⟨j5, l ++ [n1], by omega, hj5, rfl, by rw [List.length_append]; simp only [List.length_cons, List.length_nil]; omega, HJ6, HG6, HR6, HX5⟩
      · obtain rfl : j2 = s.size := by omega
        have HX2 : Hid (x = .ok (l, rem s s.size)) := Lib.hid (by
          rw [HX.out, sevT_nil (by rw [← HREM.out, rem_nil]), rem_nil]; simp [preS])
        go_upto_region 4 with fail
        go_quiet (fail)
        go_wp2_with fail
        go_ret
        rw [HX2.out]
        exact ⟨_, rfl, ⟨HR3.out.1.below (below_drewN (Below.refl _ _) nq), HR3.out.2⟩, only_drewN HG3.out nq, s.size, by omega, HJ3.out.drewN nq, rfl⟩
end Go.Proofs.YtinmiekbhoemjaaDoor.Qry
