/- Contract: lecternref18.aggs (written by gen_raggs.py). Contract: the document's Check of a schema. Written by gen_refcheck.py. -/
import Derived.Test.YtinmiekbhoemjaaGreatDoorQckRAggOne
import Derived.Test.YtinmiekbhoemjaaGreatDoorPack17
import Derived.Test.YtinmiekbhoemjaaGreatDoorPack40
import Derived.Test.YtinmiekbhoemjaaGreatDoorPack29
section
set_option linter.unusedVariables false
namespace Go.Proofs.YtinmiekbhoemjaaGreatDoor.Qck
open Go.RowKit Words Tree SchP QckP Kit Owned Sch Qry
set_option maxRecDepth 100000 in
set_option maxHeartbeats 4000000 in
theorem refAggs_step (u : Value) (l : List FT) (m : Nat) (IHm : ∀ m', m = m' + 1 → ∀ (above : Nat) (gs : List AggT) (A : Option Addr) (cap : Nat) (w : World), above + m' = 3 → T.At bare w (fun g => g < w.heap.size) (fieldsT l) u → l.length * 72 ≤ 140737488351232 → AKeys w w.heap.size A gs → gs.length * 104 ≤ 140737488351232 → (∀ a ∈ gs, AOk a) →
    Calls Tryz.prog 24 #[.agg #[u], .slice A gs.length cap, .int .i64 above] w (Sch.IntB (aggsF l above [] gs) w))
    (above : Nat) (gs : List AggT) (A : Option Addr) (cap : Nat) (w : World) (hm : above + m = 3) (hu : T.At bare w (fun g => g < w.heap.size) (fieldsT l) u) (hl : l.length * 72 ≤ 140737488351232) (hA : AKeys w w.heap.size A gs) (hgl : gs.length * 104 ≤ 140737488351232) (hok : ∀ a ∈ gs, AOk a) :
    Calls Tryz.prog 24 #[.agg #[u], .slice A gs.length cap, .int .i64 above] w (Sch.IntB (aggsF l above [] gs) w) := by
  have HU := Lib.hid (fun (W : World) (hW : Below w.heap.size w W) => At.below hu hW (fun g hg => Nat.lt_of_lt_of_le hg hW.size))
  have HA := Lib.hid hA
  have HOK := Lib.hid hok
  have IH := Lib.hid (fun (m' : Nat) (hm' : m = m' + 1) (ks : List AggT) (A' : Option Addr) (cap' : Nat) (W : World) (hW : Below w.heap.size w W) => IHm m' hm' (above + 1) ks A' cap' W (by omega) (HU.out W hW) hl)
  have HAG := Lib.hid (fun (k : Nat) (hk : k < gs.length) (W : World) (hW : Below w.heap.size w W) => refAgg_any u l gs k A cap W (HU.out W hW) hl (hA.below hW) hgl hok hk)
  obtain ⟨AF, capF, rfl, hcF, hmF, helF⟩ := at_row fcells_len hu
  obtain ⟨r, hr⟩ : ∃ r, aggsF l above [] gs = r := ⟨_, rfl⟩
  have HR : Hid (aggsF l above (gs.take 0) (gs.drop 0) = r) := Lib.hid hr
  rw [hr]
  have BS0 := Lib.hid (Blk.new w 24 #[.slice AF l.length capF])
  have HB0 := Lib.hid ((Below.refl w.heap.size w).alloc (Nat.le_refl _) (Obj.cells #[.slice AF l.length capF] 24))
  clear hr hA hok IHm hu helF hcF hmF
  go_enter Tryz.func24, Tryz.ntmps24
  go_upto_region 1 with fail
  generalize w.alloc (Obj.cells #[.slice AF l.length capF] 24) = W0 at *
  generalize (Value.agg #[.slice AF l.length capF]) = va
  go_wp2_with fail
  go_loopw [7] (fun i wr => ∃ k : Nat, k ≤ gs.length ∧ k ≤ 8 ∧ i = .int .i64 k ∧ Hid (aggsF l above (gs.take k) (gs.drop k) = r) ∧ Hid (Below w.heap.size w wr) ∧ Hid (Blk wr w.heap.size 24 #[.slice AF l.length capF])) (fun i _ => gs.length - (intOf i).toNat)
  case atStart => exact ⟨0, by omega, by omega, rfl, HR, HB0, BS0⟩
  case round =>
    clear HR HB0 BS0
    obtain ⟨k, hkk, hk8, rfl, HK, HW, BS⟩ := hrel
    by_cases hlt : k < gs.length
    · have hlt2 : (k : Int) < (gs.length : Int) := by omega
      have hk0 : (0 : Int) ≤ (k : Int) := by omega
      have HD := Lib.hid ((aggsF_step l above gs k hlt).symm.trans HK.out)
      by_cases h8 : k = 8
      · have d8 : decide ((8 : Int) ≤ (k : Int)) = true := decide_eq_true (by omega)
        have HZ : Hid (r = 184) := Lib.hid (by rw [← HD.out, if_pos (.inl (by omega))]; rfl)
        clear h8
        go_wp2_with fail
        go_ret
        rw [HZ.out]
        exact ⟨rfl, HW.out⟩
      have d8 : decide ((8 : Int) ≤ (k : Int)) = false := decide_eq_false (by omega)
      by_cases h3 : above = 3
      · have d3 : decide ((3 : Int) ≤ (above : Int)) = true := decide_eq_true (by omega)
        have HZ : Hid (r = 184) := Lib.hid (by rw [← HD.out, if_pos (.inr (by omega))]; rfl)
        clear h3
        go_wp2_with fail
        go_ret
        rw [HZ.out]
        exact ⟨rfl, HW.out⟩
      have d3 : decide ((3 : Int) ≤ (above : Int)) = false := decide_eq_false (by omega)
      have HD2 : Hid (orE (orE (aggO l gs[k] (gs.take k)) (aggsF l (above + 1) [] (kids_ gs[k]))) (aggsF l above (gs.take (k + 1)) (gs.drop (k + 1))) = r) := Lib.hid (by rw [← HD.out, if_neg (by omega)])
      have HAK := Lib.hid (fun (W : World) (hW : Below w.heap.size w W) => HAG.out k hlt W hW)
      obtain ⟨ad, us, rfl, hba, au, cu⟩ := HA.out k hlt
      have HO := Lib.hid (HOK.out _ (List.getElem_mem hlt))
      generalize aggO l gs[k] (gs.take k) = eo at *
      generalize gs[k] = g at *
      obtain ⟨n, kd, f, s, b, t, ks⟩ := g
      have HKO : Hid (ks.length * 104 ≤ 140737488351232 ∧ ∀ a ∈ ks, AOk a) := Lib.hid (by cases HO.out with | mk _ _ _ _ _ _ h1 h2 => exact ⟨h1, h2⟩)
      obtain ⟨vb, vk, rfl, hvb, hvk⟩ := at_acells au
      obtain ⟨XK, ck, rfl, hck, hckm, hak⟩ := akeys_of hvk
      have HAKK := Lib.hid hak
      have HC6 : Hid (∀ W, Below w.heap.size w W → W.cell? ⟨(ad.add (k * 7)).block, (ad.add (k * 7)).off + 6, none⟩ = some (.slice XK ks.length ck)) := Lib.hid (fun W hW => (hW.cell (by show (ad.add (k * 7)).block < _; rw [block_of_add]; exact hba)).trans (cu.at_ 6 _ rfl (by omega)))
      replace HD2 : Hid (orE (orE eo (aggsF l (above + 1) [] ks)) (aggsF l above (gs.take (k + 1)) (gs.drop (k + 1))) = r) := HD2
      have s0 : wr.cell? ⟨w.heap.size, 0, none⟩ = some (.slice AF l.length capF) := BS.out.cell 0
      clear HD cu hvb hvk au hak HK
      go_wp2_with fail
      refine (HAK.out _ HW.out).mono ?_
      rintro e w5 ⟨rfl, hb⟩
      have HB5 := Lib.hid (HW.out.trans (hb.mono HW.out.size))
      have BS5 := Lib.hid (BS.out.below hb BS.out.lt)
      clear hb s0 HAK HW BS
      by_cases he : eo = 0
      · subst he
        have HD3 : Hid (orE (aggsF l (above + 1) [] ks) (aggsF l above (gs.take (k + 1)) (gs.drop (k + 1))) = r) := Lib.hid HD2.out
        obtain ⟨m', rfl⟩ : ∃ m', m = m' + 1 := ⟨m - 1, by omega⟩
        have HAS : Hid (∀ W, Below w.heap.size w W → Calls Tryz.prog 24 #[.agg #[.slice AF l.length capF], .slice XK ks.length ck, .int .i64 ((above : Int) + 1)] W (Sch.IntB (aggsF l (above + 1) [] ks) W)) := Lib.hid (fun W hW => IH.out m' rfl ks XK ck W hW (HAKK.out.below hW) HKO.out.1 HKO.out.2)
        have hw1 : IntKind.i64.wrap ((above : Int) + 1) = (above : Int) + 1 := IntWalk.i64_in _ (by omega)
        generalize aggsF l (above + 1) [] ks = ek at *
        go_upto_region 9 with fail
        have hd9 : Below w5.heap.size w5 w5.drew := (Below.refl _ w5).drew
        refine wp_region_held_drew (S := fun V => Below w5.heap.size w5 V) (by kernel_rfl) hd9 (fun hSg0 => ?_)
        refine' wpAnyH_take (i := 0) (v := _) (by simp only [List.getElem?_toArray, List.getElem?_cons_zero]; rfl) (by kernel_rfl) (by kernel_rfl) (by kernel_rfl) (by exact fun _ _ _ h => h) (Or.inl ⟨by rfl, ?hyg0⟩) hSg0 ?restg0
        case hyg0 => intro V hSw; have fq := (BS5.out.below hSw BS5.out.lt).cell 0; clear hSw; go_simp; try with_reducible rfl
        try simp only [Act.put, List.setIfInBounds_toArray, List.set_cons_zero, List.set_cons_succ]
        refine' wpAnyH_take (i := 1) (v := _) (by simp only [List.getElem?_toArray, List.getElem?_cons_succ, List.getElem?_cons_zero]; rfl) (by kernel_rfl) (by kernel_rfl) (by kernel_rfl) (by exact fun _ _ _ h => h) (Or.inl ⟨by rfl, ?hyg1⟩) hSg0 ?restg1
        case hyg1 => intro V hSw; clear hSw; go_simp; try with_reducible rfl
        try simp only [Act.put, List.setIfInBounds_toArray, List.set_cons_zero, List.set_cons_succ]
        refine' wpAnyH_take (i := 2) (v := _) (by simp only [List.getElem?_toArray, List.getElem?_cons_succ, List.getElem?_cons_zero]; rfl) (by kernel_rfl) (by kernel_rfl) (by kernel_rfl) (by exact fun _ _ _ h => h) (Or.inl ⟨by rfl, ?hyg2⟩) hSg0 ?restg2
        case hyg2 => intro V hSw; clear hSw; go_simp; try with_reducible rfl
        try simp only [Act.put, List.setIfInBounds_toArray, List.set_cons_zero, List.set_cons_succ]
        refine' wpAnyH_take (i := 3) (v := _) (by simp only [List.getElem?_toArray, List.getElem?_cons_succ, List.getElem?_cons_zero]; rfl) (by kernel_rfl) (by kernel_rfl) (by kernel_rfl) (by exact fun _ _ _ h => h) (Or.inl ⟨by rfl, ?hyg3⟩) hSg0 ?restg3
        case hyg3 => intro V hSw; clear hSw; go_simp; try with_reducible rfl
        try simp only [Act.put, List.setIfInBounds_toArray, List.set_cons_zero, List.set_cons_succ]
        refine' wpAnyH_take (i := 4) (v := _) (by simp only [List.getElem?_toArray, List.getElem?_cons_succ, List.getElem?_cons_zero]; rfl) (by kernel_rfl) (by kernel_rfl) (by kernel_rfl) (by exact fun _ _ _ h => h) (Or.inl ⟨by rfl, ?hyg4⟩) hSg0 ?restg4
        case hyg4 => intro V hSw; clear hSw; go_simp; try with_reducible rfl
        try simp only [Act.put, List.setIfInBounds_toArray, List.set_cons_zero, List.set_cons_succ]
        refine' wpAnyH_take (i := 5) (v := _) (by simp only [List.getElem?_toArray, List.getElem?_cons_succ, List.getElem?_cons_zero]; rfl) (by kernel_rfl) (by kernel_rfl) (by kernel_rfl) (by exact fun _ _ _ h => h) (Or.inl ⟨by rfl, ?hyg5⟩) hSg0 ?restg5
        case hyg5 => intro V hSw; have fq := HC6.out V (HB5.out.trans (hSw.mono HB5.out.size)); clear hSw; go_simp; try with_reducible rfl
        try simp only [Act.put, List.setIfInBounds_toArray, List.set_cons_zero, List.set_cons_succ]
        refine' wpAnyH_take (i := 6) (v := _) (by simp only [List.getElem?_toArray, List.getElem?_cons_succ, List.getElem?_cons_zero]; rfl) (by kernel_rfl) (by kernel_rfl) (by kernel_rfl) (by exact fun _ _ _ h => h) (Or.inl ⟨by rfl, ?hyg6⟩) hSg0 ?restg6
        case hyg6 => intro V hSw; clear hSw; go_simp; try with_reducible rfl
        try simp only [Act.put, List.setIfInBounds_toArray, List.set_cons_zero, List.set_cons_succ]
        refine' wpAnyH_take (i := 7) (v := _) (by simp only [List.getElem?_toArray, List.getElem?_cons_succ, List.getElem?_cons_zero]; rfl) (by kernel_rfl) (by kernel_rfl) (by kernel_rfl) (by exact fun _ _ _ h => h) (Or.inl ⟨by rfl, ?hyg7⟩) hSg0 ?restg7
        case hyg7 => intro V hSw; clear hSw; go_simp; try with_reducible rfl
        try simp only [Act.put, List.setIfInBounds_toArray, List.set_cons_zero, List.set_cons_succ]
        refine wpAnyH_ready (rs := [8]) (by kernel_rfl) (by simp) ?_
        refine' AllReadyH.cons (by simp only [List.getElem?_toArray, List.getElem?_cons_succ, List.getElem?_cons_zero]; rfl) (fun K hK => ?_) AllReadyH.nil
        go_simp
        refine (HAS.out _ (HB5.out.trans (hSg0.mono HB5.out.size))).mono ?_
        rintro e Vg1 ⟨rfl, q⟩
        have Bg1 := Lib.hid (Below.trans hSg0 (q.mono (hSg0).size))
        clear q
        go_simp
        refine hK.out _ _ Bg1.out (fun hSg1 => ?_)
        try simp only [Act.put, List.setIfInBounds_toArray, List.set_cons_zero, List.set_cons_succ]
        refine' wpAnyH_take (i := 9) (v := _) (by simp only [List.getElem?_toArray, List.getElem?_cons_succ, List.getElem?_cons_zero]; rfl) (by kernel_rfl) (by kernel_rfl) (by kernel_rfl) (by exact fun _ _ _ h => h) (Or.inl ⟨by rfl, ?hyg9⟩) hSg1 ?restg9
        case hyg9 => intro V hSw; clear hSw; go_simp; try with_reducible rfl
        try simp only [Act.put, List.setIfInBounds_toArray, List.set_cons_zero, List.set_cons_succ]
        refine wpAnyH_done (by kernel_rfl) ?_ _
        have HB8 := Lib.hid (HB5.out.trans (Bg1.out.mono HB5.out.size))
        have BS8 := Lib.hid (BS5.out.below Bg1.out BS5.out.lt)
        clear hSg0 hSg1 hd9
        by_cases hk2 : ek = 0
        · subst hk2
          have HZ : Hid (aggsF l above (gs.take (k + 1)) (gs.drop (k + 1)) = r) := Lib.hid HD3.out
          go_wp2_with fail
          go_roundw
          case rel => exact ⟨k + 1, by omega, by omega, by go_num, HZ, HB8, BS8⟩
          case measure => simp [intOf]; omega
        · have hke : (ek != (0 : Int)) = true := by rw [bne_iff_ne]; exact hk2
          have HZ : Hid (r = ek) := Lib.hid (by rw [← HD3.out, orE, if_neg hk2])
          clear hk2
          go_wp2_with fail
          go_ret
          rw [HZ.out]
          exact ⟨rfl, HB8.out⟩
      · have hee : (eo != (0 : Int)) = true := by rw [bne_iff_ne]; exact he
        have HZ : Hid (r = eo) := Lib.hid (by
          have := HD2.out
          unfold orE at this
          rw [if_neg he, if_neg he] at this
          exact this.symm)
        clear he
        go_wp2_with fail
        go_ret
        rw [HZ.out]
        exact ⟨rfl, HB5.out⟩
    · obtain rfl : k = gs.length := by omega
      have HZ : Hid (r = 0) := Lib.hid (by rw [← HK.out, List.drop_length, aggsF])
      go_wp2_with fail
      go_ret
      rw [HZ.out]
      exact ⟨rfl, HW.out⟩
theorem refAggs_any (u : Value) (l : List FT) (m : Nat) : ∀ (above : Nat) (gs : List AggT) (A : Option Addr) (cap : Nat) (w : World), above + m = 3 → T.At bare w (fun g => g < w.heap.size) (fieldsT l) u → l.length * 72 ≤ 140737488351232 → AKeys w w.heap.size A gs → gs.length * 104 ≤ 140737488351232 → (∀ a ∈ gs, AOk a) →
    Calls Tryz.prog 24 #[.agg #[u], .slice A gs.length cap, .int .i64 above] w (Sch.IntB (aggsF l above [] gs) w) := by
  induction m with
  | zero => intro above gs A cap w hm hu hl hA hgl hok; exact refAggs_step u l 0 (fun m' h => by omega) above gs A cap w hm hu hl hA hgl hok
  | succ m ih => intro above gs A cap w hm hu hl hA hgl hok; exact refAggs_step u l (m + 1) (fun m' h => Nat.succ.inj h ▸ ih) above gs A cap w hm hu hl hA hgl hok
end Go.Proofs.YtinmiekbhoemjaaGreatDoor.Qck
end
section
set_option linter.unusedVariables false
namespace Go.Proofs.YtinmiekbhoemjaaGreatDoor.Sch
open Go.RowKit Words Tree SchP Kit Owned AnaP

theorem sgn_ways (k : Int) : k = 0 ∨ (k ≠ 0 ∧ k < 0 ∧ decide (k < 0) = true) ∨ (k ≠ 0 ∧ ¬ k < 0 ∧ decide (k < 0) = false ∧ 0 < k ∧ decide (0 < k) = true) := by
  rcases Int.lt_trichotomy k 0 with h | h | h
  · exact .inr (.inl ⟨by omega, h, decide_eq_true h⟩)
  · exact .inl h
  · exact .inr (.inr ⟨by omega, by omega, decide_eq_false (by omega), h, decide_eq_true h⟩)
theorem nine_ways (k : Int) : (k < 0 ∧ decide (k < 0) = true) ∨ (¬ k < 0 ∧ decide (k < 0) = false ∧ 9 < k ∧ decide (9 < k) = true) ∨ (0 ≤ k ∧ k ≤ 9 ∧ ¬ k < 0 ∧ decide (k < 0) = false ∧ ¬ 9 < k ∧ decide (9 < k) = false) := by
  by_cases h : k < 0
  · exact .inl ⟨h, decide_eq_true h⟩
  · by_cases h2 : 9 < k
    · exact .inr (.inl ⟨h, decide_eq_false h, h2, decide_eq_true h2⟩)
    · exact .inr (.inr ⟨by omega, by omega, h, decide_eq_false h, h2, decide_eq_false h2⟩)
theorem four_ways (k : Int) : (k < 1 ∧ decide (k < 1) = true) ∨ (¬ k < 1 ∧ decide (k < 1) = false ∧ 4 < k ∧ decide (4 < k) = true) ∨ (1 ≤ k ∧ k ≤ 4 ∧ ¬ k < 1 ∧ decide (k < 1) = false ∧ ¬ 4 < k ∧ decide (4 < k) = false ∧ (k != k) = false) := by
  by_cases h : k < 1
  · exact .inl ⟨h, decide_eq_true h⟩
  · by_cases h2 : 4 < k
    · exact .inr (.inl ⟨h, decide_eq_false h, h2, decide_eq_true h2⟩)
    · exact .inr (.inr ⟨by omega, by omega, h, decide_eq_false h, h2, decide_eq_false h2, by simp⟩)
theorem len_ways (n : Nat) : n = 0 ∨ (n ≠ 0 ∧ ((n : Int) != 0) = true ∧ (n != 0) = true) := by
  by_cases h : n = 0
  · exact .inl h
  · exact .inr ⟨h, by simpa using h, by simpa using h⟩
set_option maxRecDepth 100000 in
set_option maxHeartbeats 16000000 in
theorem refCheckS_any (u : Value) (l : List FT) (w : World) (hu : T.At bare w (fun g => g < w.heap.size) (fieldsT l) u) (hl : l.length * 72 ≤ 140737488351232) (hf : ∀ f ∈ l, FOk f) :
    Calls Tryz.prog 19 #[.agg #[u]] w (IntB (errS (checkS l)) w) := by
  obtain ⟨A, cap, rfl, hc, hm, hel⟩ := at_row fcells_len hu
  have EL := Lib.hid hel
  have HF := Lib.hid hf
  obtain ⟨r, hr⟩ : ∃ r, checkS l = r := ⟨_, rfl⟩
  have HR := Lib.hid hr
  rw [hr]
  clear hel hu hf hr
  rcases (show l.length = 0 ∨ 16 < l.length ∨ (1 ≤ l.length ∧ l.length ≤ 16) by omega) with h0 | h0 | ⟨h0, h1⟩
  · have HRF : Hid (r = false) := Lib.hid (by rw [← HR.out, checkS, h0]; simp)
    rw [h0]
    clear EL HF HR
    go_enter Tryz.func19, Tryz.ntmps19
    go_wp2_with fail
    go_ret
    rw [HRF.out]
    exact ⟨rfl, (Below.refl _ _).alloc (Nat.le_refl _) _⟩
  · have HRF : Hid (r = false) := Lib.hid (by rw [← HR.out, checkS]; simp; omega)
    have a1 : ((l.length : Int) == 0) = false := by rw [beq_eq_false_iff_ne]; omega
    have a2 : decide ((16 : Int) < l.length) = true := by rw [decide_eq_true_iff]; omega
    go_enter Tryz.func19, Tryz.ntmps19
    go_wp2_with fail
    go_ret
    rw [HRF.out]
    exact ⟨rfl, (Below.refl _ _).alloc (Nat.le_refl _) _⟩
  have HRQ : Hid (r = okTo l l.length) := Lib.hid (by rw [← HR.out, checkS, decide_eq_true h0, decide_eq_true h1]; simp)
  have a1 : ((l.length : Int) == 0) = false := by rw [beq_eq_false_iff_ne]; omega
  have a2 : decide ((16 : Int) < l.length) = false := by rw [decide_eq_false_iff_not]; omega
  clear HR
  go_enter Tryz.func19, Tryz.ntmps19
  go_wp2_with fail
  have HB := Lib.hid ((Below.refl _ w).alloc (Nat.le_refl _) (Obj.cells #[.slice A l.length cap] 24))
  have BA := Lib.hid (Blk.new w 24 #[.slice A l.length cap])
  have hzW : (w.alloc (Obj.cells #[.slice A l.length cap] 24)).heap.size = w.heap.size + 1 := by simp
  generalize w.alloc (Obj.cells #[.slice A l.length cap] 24) = W at *
  go_loopw [3] (fun i wr => ∃ k : Nat, k ≤ l.length ∧ i = .int .i64 k ∧ Hid (okTo l k = true) ∧ Hid (Below W.heap.size W wr)) (fun i _ => l.length - (intOf i).toNat)
  case atStart => exact ⟨0, by omega, rfl, Lib.hid (okTo_zero l), Lib.hid (Below.refl _ _)⟩
  case round =>
    obtain ⟨k, hkk, rfl, HK, HW⟩ := hrel
    obtain ⟨wo, hwo⟩ : ∃ wo : World, wo = wr := ⟨_, rfl⟩
    subst hwo
    have BA2 := Lib.hid (BA.out.below HW.out (by omega))
    have hcA : wo.cell? ⟨w.heap.size, 0, none⟩ = some (.slice A l.length cap) := BA2.out.cell 0
    have hzr := HW.out.size
    have HWW : Hid (Below w.heap.size w wo) := Lib.hid (HB.out.trans (HW.out.mono HB.out.size))
    by_cases hlt : k < l.length
    · obtain ⟨ad, us, rfl, hba, au, lu, cu⟩ := EL.out k hlt
      replace cu := cu.keep (w' := wo) (fun p hp => HWW.out.cell (by rw [hp, block_of_add]; exact hba))
      have hab : (ad.add (k * 7)).block < wo.heap.size := by rw [block_of_add]; omega
      have hok := HF.out _ (List.getElem_mem hlt)
      have HS : Hid (okTo l (k + 1) = (firstB l k && mayB l[k])) := Lib.hid (by rw [okTo_succ, HK.out, okAt_eq hlt]; simp)
      have HNO : Hid ((firstB l k && mayB l[k]) = false → r = false) := Lib.hid (fun h => by rw [HRQ.out]; exact okTo_no (by rw [okAt_eq hlt]; exact h) hlt)
      have HFI : Hid (firstB l k = true ↔ ∀ (m : Nat) (hk : m < k), (l[m]'(by omega)).name ≠ l[k].name) := Lib.hid (firstB_iff hlt)
      generalize l[k] = f at *
      obtain ⟨vc, rfl, gc⟩ := at_fcells au
      obtain ⟨X, z, rfl, hz, hmz, hrd⟩ := at_nums gc
      have HC := Lib.hid (fun (V : World) (hV : Below w.heap.size w V) => Ana.refCheck_any X f.chain.length z f.chain V rfl ((hrd.below hV).more hV.size) (Nat.le_trans hz hmz))
      have HNM := Lib.hid (fun (V : World) (_ : Below w.heap.size w V) => refName_any f.name V hok.name)
      obtain ⟨a0, a1', a2', a3, a4, a5, a6⟩ := seven cu
      have HMQ : Hid (∀ b r0 : Bool, nameB f.name = b → checkB f.chain = r0 → mayB f = (b && (decide (f.kind = 1) || decide (f.chain.length = 0)) && (decide (f.kind = 4) || decide (f.scale = 0)) && (decide (f.kind = 5) || decide (f.dims = 0)) && (if f.kind = 1 then r0 else if f.kind = 2 ∨ f.kind = 3 then true else if f.kind = 4 then decide (0 ≤ f.scale ∧ f.scale ≤ 9) else if f.kind = 5 then decide (1 ≤ f.dims ∧ f.dims ≤ 4) else false))) := Lib.hid (by intro b r0 h1 h2; unfold mayB kindB; rw [h1, h2])
      obtain ⟨b, hb⟩ : ∃ b, nameB f.name = b := ⟨_, rfl⟩
      obtain ⟨r0, hr0⟩ : ∃ r0, checkB f.chain = r0 := ⟨_, rfl⟩
      have HQ := Lib.hid (HMQ.out b r0 hb hr0)
      rw [hb] at HNM
      rw [hr0] at HC
      clear cu au lu gc hok hrd hb hr0 HMQ
      obtain ⟨nm, kd, ch, sc, di, mn, st⟩ := f
      dsimp only at *
      have hw1 : w.heap.size < wo.heap.size := by omega
      generalize hch : ch.length = n at *
      go_wp2_with fail
      refine (HNM.out _ (HWW.out.alloc HWW.out.size _)).mono ?_
      rintro e W1 ⟨rfl, b1⟩
      have HB1 := Lib.hid (((Below.refl _ wo).alloc (Nat.le_refl _) _).trans (b1.mono (by simp)) : Below wo.heap.size wo W1)
      have BF := Lib.hid ((Blk.new wo 46 #[.string nm, .int .i64 kd, .slice X n z, .int .i64 sc, .int .i64 di, .bool mn, .bool st]).below b1 (by simp))
      have hz1 : wo.heap.size + 1 ≤ W1.heap.size := by have := b1.size; simpa using this
      clear b1 a0 a1' a2' a3 a4 a5 a6 hcA
      cases b with
      | false =>
        have HN : Hid (r = false) := Lib.hid (HNO.out (by rw [HQ.out]; simp))
        go_wp2_with fail
        go_ret
        rw [HN.out]
        exact ⟨rfl, HWW.out.trans (HB1.out.mono HWW.out.size)⟩
      | true =>
      go_wp2_with fail
      go_loopw [5] (fun q wq => ∃ j : Nat, j ≤ k ∧ q = .int .i64 j ∧ Hid (∀ (m : Nat) (hm : m < j) (hm2 : m < l.length), l[m].name ≠ nm) ∧ Hid (Below W1.heap.size W1 wq)) (fun q _ => k - (intOf q).toNat)
      case atStart => exact ⟨0, by omega, rfl, Lib.hid (fun m hm => by omega), Lib.hid (Below.refl _ _)⟩
      case round =>
        obtain ⟨j, hj, rfl, HU, HV⟩ := hrel
        have HB2 := Lib.hid (HB1.out.trans (HV.out.mono (by omega)) : Below wo.heap.size wo wr)
        have HWV := Lib.hid (HWW.out.trans (HB2.out.mono HWW.out.size))
        have BF2 := Lib.hid (BF.out.below HV.out BF.out.lt)
        have BA3 := Lib.hid (BA2.out.below HB2.out BA2.out.lt)
        by_cases hjk : j < k
        · have hjl : j < l.length := by omega
          obtain ⟨ad', us', he, hba', au', lu', cu'⟩ := EL.out j hjl
          injection he with he
          subst he
          replace cu' := cu'.keep (fun p hp => HWV.out.cell (by rw [hp, block_of_add]; exact hba'))
          have HUS : Hid (l[j].name ≠ nm → ∀ (m : Nat) (hm : m < j + 1) (hm2 : m < l.length), l[m].name ≠ nm) := Lib.hid (fun h m hm hm2 => by
            rcases Nat.lt_or_ge m j with h3 | h3
            · exact HU.out m h3 hm2
            · obtain rfl : m = j := by omega
              exact h)
          have HUF : Hid (l[j].name = nm → r = false) := Lib.hid (fun h => HNO.out (by
            have : firstB l k = false := by
              cases hfb : firstB l k with
              | false => rfl
              | true => exact absurd h (HFI.out.1 hfb j hjk)
            rw [this]; rfl))
          generalize l[j] = y at *
          obtain ⟨vc', rfl, gc'⟩ := at_fcells au'
          have c0 := cu'.zero
          have cA := BA3.out.cell 0
          have p0 := BF2.out.cell 0
          simp only [List.getElem?_toArray, List.getElem?_cons_zero] at cA p0
          have hjl2 : (j : Int) < (l.length : Int) := by omega
          clear cu' au' lu' gc'
          obtain ⟨y0, y1, y2, y3, y4, y5, y6⟩ := y
          dsimp only at *
          rcases str_cases y0 nm with ⟨h1', h2'⟩ | ⟨h1', h2'⟩
          · have HN : Hid (r = false) := Lib.hid (HUF.out h1')
            clear h1' HUF HUS
            go_wp2_with fail
            go_quiet (fail)
            go_wp2_with fail
            go_ret
            rw [HN.out]
            exact ⟨rfl, Words.below_drewN HWV.out _⟩
          · have HN := Lib.hid (HUS.out h1')
            clear h1' HUF HUS
            go_wp2_with fail
            go_quiet (fail)
            go_wp2_with fail
            go_roundw
            case rel => exact ⟨j + 1, by omega, by go_num, HN, Lib.hid (Words.below_drewN HV.out _)⟩
            case measure => simp [intOf]; omega
        · obtain rfl : j = k := by omega
          have HFT : Hid (firstB l j = true) := Lib.hid (HFI.out.2 (fun m hm => HU.out m hm (by omega)))
          have HNF : Hid (mayB ⟨nm, kd, ch, sc, di, mn, st⟩ = false → r = false) := Lib.hid (fun h => HNO.out (by rw [h]; simp))
          have HST : Hid (mayB ⟨nm, kd, ch, sc, di, mn, st⟩ = true → okTo l (j + 1) = true) := Lib.hid (fun h => by rw [HS.out, HFT.out, h]; rfl)
          obtain ⟨p0, p1, p2, p3, p4, p5, p6⟩ := blk7 BF2.out
          have BFK := Lib.hid BF2.out
          clear HS HNO HFI HU HFT BF BF2 BA BA3 HK
          have hr : (r0 = true ∧ Ana.errOf r0 = 0) ∨ (r0 = false ∧ Ana.errOf r0 = 60) := by cases r0 <;> simp [Ana.errOf]
          rcases kind_ways kd with rfl | rfl | rfl | rfl | rfl | ⟨e1, e2, e3, e4, e5, n1, n4, n5, k1, k2, k3, k4, k5⟩
          · have BG := Lib.hid (show Blk _ _ _ _ from BFK.out)
            rcases hr with ⟨rfl, he⟩ | ⟨rfl, he⟩
            rotate_left
            · have HN : Hid (r = false) := Lib.hid (HNF.out (by rw [HQ.out]; simp_all <;> omega))
              clear HQ HNF HST
              go_wp2_with fail
              refine (HC.out _ HWV.out).mono ?_
              rintro e W2 ⟨rfl, b2⟩
              have HV2 := Lib.hid (HV.out.trans (b2.mono HV.out.size))
              have HB3 := Lib.hid (HB2.out.trans (b2.mono HB2.out.size))
              obtain ⟨q0, q1, q2, q3, q4, q5, q6⟩ := blk7 (BG.out.below b2 BG.out.lt)
              rw [he]
              clear b2 p0 p1 p2 p3 p4 p5 p6
              go_wp2_with fail
              go_ret
              rw [HN.out]
              exact ⟨rfl, HWW.out.trans (HB3.out.mono HWW.out.size)⟩
            have hnn : ((n : Int) != (n : Int)) = false := by simp
            rcases sgn_ways sc with rfl | ⟨s0, s1, s2⟩ | ⟨s0, s1, s2, s3, s4⟩
            rotate_left
            · have HN : Hid (r = false) := Lib.hid (HNF.out (by rw [HQ.out]; simp_all <;> omega))
              clear HQ HNF HST
              go_wp2_with fail
              refine (HC.out _ HWV.out).mono ?_
              rintro e W2 ⟨rfl, b2⟩
              have HV2 := Lib.hid (HV.out.trans (b2.mono HV.out.size))
              have HB3 := Lib.hid (HB2.out.trans (b2.mono HB2.out.size))
              obtain ⟨q0, q1, q2, q3, q4, q5, q6⟩ := blk7 (BG.out.below b2 BG.out.lt)
              rw [he]
              clear b2 p0 p1 p2 p3 p4 p5 p6
              go_wp2_with fail
              go_ret
              rw [HN.out]
              exact ⟨rfl, HWW.out.trans (HB3.out.mono HWW.out.size)⟩
            · have HN : Hid (r = false) := Lib.hid (HNF.out (by rw [HQ.out]; simp_all <;> omega))
              clear HQ HNF HST
              go_wp2_with fail
              refine (HC.out _ HWV.out).mono ?_
              rintro e W2 ⟨rfl, b2⟩
              have HV2 := Lib.hid (HV.out.trans (b2.mono HV.out.size))
              have HB3 := Lib.hid (HB2.out.trans (b2.mono HB2.out.size))
              obtain ⟨q0, q1, q2, q3, q4, q5, q6⟩ := blk7 (BG.out.below b2 BG.out.lt)
              rw [he]
              clear b2 p0 p1 p2 p3 p4 p5 p6
              go_wp2_with fail
              go_ret
              rw [HN.out]
              exact ⟨rfl, HWW.out.trans (HB3.out.mono HWW.out.size)⟩
            rcases zero_ways di with rfl | ⟨d0, d1, d2⟩
            rotate_left
            · have HN : Hid (r = false) := Lib.hid (HNF.out (by rw [HQ.out]; simp_all <;> omega))
              clear HQ HNF HST
              go_wp2_with fail
              refine (HC.out _ HWV.out).mono ?_
              rintro e W2 ⟨rfl, b2⟩
              have HV2 := Lib.hid (HV.out.trans (b2.mono HV.out.size))
              have HB3 := Lib.hid (HB2.out.trans (b2.mono HB2.out.size))
              obtain ⟨q0, q1, q2, q3, q4, q5, q6⟩ := blk7 (BG.out.below b2 BG.out.lt)
              rw [he]
              clear b2 p0 p1 p2 p3 p4 p5 p6
              go_wp2_with fail
              go_ret
              rw [HN.out]
              exact ⟨rfl, HWW.out.trans (HB3.out.mono HWW.out.size)⟩
            · have HT := Lib.hid (HST.out (by rw [HQ.out]; simp_all <;> omega))
              clear HQ HNF HST
              go_wp2_with fail
              refine (HC.out _ HWV.out).mono ?_
              rintro e W2 ⟨rfl, b2⟩
              have HV2 := Lib.hid (HV.out.trans (b2.mono HV.out.size))
              have HB3 := Lib.hid (HB2.out.trans (b2.mono HB2.out.size))
              obtain ⟨q0, q1, q2, q3, q4, q5, q6⟩ := blk7 (BG.out.below b2 BG.out.lt)
              rw [he]
              clear b2 p0 p1 p2 p3 p4 p5 p6
              go_wp2_with fail
              go_roundw
              case rel => exact ⟨j + 1, by omega, by go_num, HT, Lib.hid (HW.out.trans (HB3.out.mono HW.out.size))⟩
              case measure => simp [intOf]; omega
          · skip
            rcases len_ways n with rfl | ⟨c0, c1, c2⟩
            rotate_left
            · have HN : Hid (r = false) := Lib.hid (HNF.out (by rw [HQ.out]; simp_all <;> omega))
              clear HQ HNF HST
              go_wp2_with fail
              go_ret
              rw [HN.out]
              exact ⟨rfl, HWW.out.trans (HB2.out.mono HWW.out.size)⟩
            rcases sgn_ways sc with rfl | ⟨s0, s1, s2⟩ | ⟨s0, s1, s2, s3, s4⟩
            rotate_left
            · have HN : Hid (r = false) := Lib.hid (HNF.out (by rw [HQ.out]; simp_all <;> omega))
              clear HQ HNF HST
              go_wp2_with fail
              go_ret
              rw [HN.out]
              exact ⟨rfl, HWW.out.trans (HB2.out.mono HWW.out.size)⟩
            · have HN : Hid (r = false) := Lib.hid (HNF.out (by rw [HQ.out]; simp_all <;> omega))
              clear HQ HNF HST
              go_wp2_with fail
              go_ret
              rw [HN.out]
              exact ⟨rfl, HWW.out.trans (HB2.out.mono HWW.out.size)⟩
            rcases zero_ways di with rfl | ⟨d0, d1, d2⟩
            rotate_left
            · have HN : Hid (r = false) := Lib.hid (HNF.out (by rw [HQ.out]; simp_all <;> omega))
              clear HQ HNF HST
              go_wp2_with fail
              go_ret
              rw [HN.out]
              exact ⟨rfl, HWW.out.trans (HB2.out.mono HWW.out.size)⟩
            · have HT := Lib.hid (HST.out (by rw [HQ.out]; simp_all <;> omega))
              clear HQ HNF HST
              go_wp2_with fail
              go_roundw
              case rel => exact ⟨j + 1, by omega, by go_num, HT, Lib.hid (HW.out.trans (HB2.out.mono HW.out.size))⟩
              case measure => simp [intOf]; omega
          · skip
            rcases len_ways n with rfl | ⟨c0, c1, c2⟩
            rotate_left
            · have HN : Hid (r = false) := Lib.hid (HNF.out (by rw [HQ.out]; simp_all <;> omega))
              clear HQ HNF HST
              go_wp2_with fail
              go_ret
              rw [HN.out]
              exact ⟨rfl, HWW.out.trans (HB2.out.mono HWW.out.size)⟩
            rcases sgn_ways sc with rfl | ⟨s0, s1, s2⟩ | ⟨s0, s1, s2, s3, s4⟩
            rotate_left
            · have HN : Hid (r = false) := Lib.hid (HNF.out (by rw [HQ.out]; simp_all <;> omega))
              clear HQ HNF HST
              go_wp2_with fail
              go_ret
              rw [HN.out]
              exact ⟨rfl, HWW.out.trans (HB2.out.mono HWW.out.size)⟩
            · have HN : Hid (r = false) := Lib.hid (HNF.out (by rw [HQ.out]; simp_all <;> omega))
              clear HQ HNF HST
              go_wp2_with fail
              go_ret
              rw [HN.out]
              exact ⟨rfl, HWW.out.trans (HB2.out.mono HWW.out.size)⟩
            rcases zero_ways di with rfl | ⟨d0, d1, d2⟩
            rotate_left
            · have HN : Hid (r = false) := Lib.hid (HNF.out (by rw [HQ.out]; simp_all <;> omega))
              clear HQ HNF HST
              go_wp2_with fail
              go_ret
              rw [HN.out]
              exact ⟨rfl, HWW.out.trans (HB2.out.mono HWW.out.size)⟩
            · have HT := Lib.hid (HST.out (by rw [HQ.out]; simp_all <;> omega))
              clear HQ HNF HST
              go_wp2_with fail
              go_roundw
              case rel => exact ⟨j + 1, by omega, by go_num, HT, Lib.hid (HW.out.trans (HB2.out.mono HW.out.size))⟩
              case measure => simp [intOf]; omega
          · skip
            rcases len_ways n with rfl | ⟨c0, c1, c2⟩
            rotate_left
            · have HN : Hid (r = false) := Lib.hid (HNF.out (by rw [HQ.out]; simp_all <;> omega))
              clear HQ HNF HST
              go_wp2_with fail
              go_ret
              rw [HN.out]
              exact ⟨rfl, HWW.out.trans (HB2.out.mono HWW.out.size)⟩
            rcases nine_ways sc with ⟨s0, s1⟩ | ⟨s0, s1, s2, s3⟩ | ⟨s0, s1, s2, s3, s4, s5⟩
            · have HN : Hid (r = false) := Lib.hid (HNF.out (by rw [HQ.out]; simp_all <;> omega))
              clear HQ HNF HST
              go_wp2_with fail
              go_ret
              rw [HN.out]
              exact ⟨rfl, HWW.out.trans (HB2.out.mono HWW.out.size)⟩
            · have HN : Hid (r = false) := Lib.hid (HNF.out (by rw [HQ.out]; simp_all <;> omega))
              clear HQ HNF HST
              go_wp2_with fail
              go_ret
              rw [HN.out]
              exact ⟨rfl, HWW.out.trans (HB2.out.mono HWW.out.size)⟩
            rcases zero_ways di with rfl | ⟨d0, d1, d2⟩
            rotate_left
            · have HN : Hid (r = false) := Lib.hid (HNF.out (by rw [HQ.out]; simp_all <;> omega))
              clear HQ HNF HST
              go_wp2_with fail
              go_ret
              rw [HN.out]
              exact ⟨rfl, HWW.out.trans (HB2.out.mono HWW.out.size)⟩
            · have HT := Lib.hid (HST.out (by rw [HQ.out]; simp_all <;> omega))
              clear HQ HNF HST
              go_wp2_with fail
              go_roundw
              case rel => exact ⟨j + 1, by omega, by go_num, HT, Lib.hid (HW.out.trans (HB2.out.mono HW.out.size))⟩
              case measure => simp [intOf]; omega
          · skip
            rcases four_ways di with ⟨s0, s1⟩ | ⟨s0, s1, s2, s3⟩ | ⟨s0, s1, s2, s3, s4, s5, s6⟩
            · have HN : Hid (r = false) := Lib.hid (HNF.out (by rw [HQ.out]; simp_all <;> omega))
              clear HQ HNF HST
              go_wp2_with fail
              go_ret
              rw [HN.out]
              exact ⟨rfl, HWW.out.trans (HB2.out.mono HWW.out.size)⟩
            · have HN : Hid (r = false) := Lib.hid (HNF.out (by rw [HQ.out]; simp_all <;> omega))
              clear HQ HNF HST
              go_wp2_with fail
              go_ret
              rw [HN.out]
              exact ⟨rfl, HWW.out.trans (HB2.out.mono HWW.out.size)⟩
            rcases len_ways n with rfl | ⟨c0, c1, c2⟩
            rotate_left
            · have HN : Hid (r = false) := Lib.hid (HNF.out (by rw [HQ.out]; simp_all <;> omega))
              clear HQ HNF HST
              go_wp2_with fail
              go_ret
              rw [HN.out]
              exact ⟨rfl, HWW.out.trans (HB2.out.mono HWW.out.size)⟩
            rcases sgn_ways sc with rfl | ⟨t0, t1, t2⟩ | ⟨t0, t1, t2, t3, t4⟩
            rotate_left
            · have HN : Hid (r = false) := Lib.hid (HNF.out (by rw [HQ.out]; simp_all <;> omega))
              clear HQ HNF HST
              go_wp2_with fail
              go_ret
              rw [HN.out]
              exact ⟨rfl, HWW.out.trans (HB2.out.mono HWW.out.size)⟩
            · have HN : Hid (r = false) := Lib.hid (HNF.out (by rw [HQ.out]; simp_all <;> omega))
              clear HQ HNF HST
              go_wp2_with fail
              go_ret
              rw [HN.out]
              exact ⟨rfl, HWW.out.trans (HB2.out.mono HWW.out.size)⟩
            · have HT := Lib.hid (HST.out (by rw [HQ.out]; simp_all <;> omega))
              clear HQ HNF HST
              go_wp2_with fail
              go_roundw
              case rel => exact ⟨j + 1, by omega, by go_num, HT, Lib.hid (HW.out.trans (HB2.out.mono HW.out.size))⟩
              case measure => simp [intOf]; omega
          · skip
            · have HN : Hid (r = false) := Lib.hid (HNF.out (by rw [HQ.out]; simp_all <;> omega))
              clear HQ HNF HST
              go_wp2_with fail
              go_ret
              rw [HN.out]
              exact ⟨rfl, HWW.out.trans (HB2.out.mono HWW.out.size)⟩
    · obtain rfl : k = l.length := by omega
      have HT : Hid (r = true) := Lib.hid (by rw [HRQ.out, HK.out])
      go_wp2_with fail
      go_ret
      rw [HT.out]
      exact ⟨rfl, HWW.out⟩
end Go.Proofs.YtinmiekbhoemjaaGreatDoor.Sch
end
