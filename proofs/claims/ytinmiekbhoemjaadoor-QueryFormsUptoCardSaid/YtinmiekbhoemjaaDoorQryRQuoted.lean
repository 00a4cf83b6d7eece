/- Contract: the document's quoted. Written by gen_rquoted.py. -/
import Derived.Test.YtinmiekbhoemjaaDoorQryQuote
import Derived.Test.YtinmiekbhoemjaaDoorPack4
import Derived.Deep.RegionHeld3
set_option linter.unusedVariables false
namespace Go.Proofs.YtinmiekbhoemjaaDoor.Qry
open Go.RowKit Words Tree QryP Kit Owned

/-- A row of bytes in memory of its own is answered. -/
def RowB (l : List UInt8) (w : World) (e : Ending) (w' : World) : Prop := ∃ v, e = .returned v ∧ w'.ownsRow w.heap.size 5 1 v l.length (Lib.byteCells l) ∧ Below w.heap.size w w'
theorem infoU8 : (Tryd.prog.info? 5).map (fun i => (i.zero, i.size, i.bytes)) = some (some (.int .u8 0), 1, 1) := by kernel_rfl
/-- Bytes that are put behind a row of the call's own. -/
theorem row_more {w wr wq w' : World} {l x : List UInt8} {v v' : Value} (hw : Below w.heap.size w wr) (h : wr.ownsRow w.heap.size 5 1 v l.length (Lib.byteCells l)) (hq : Below w.heap.size wr wq)
    (ho : w'.ownsRow w.heap.size 5 1 v' (l.length + x.length) (Lib.byteCells l ++ Lib.byteCells x)) (hg : wq.grownBy w' v.ownBlock) : w'.ownsRow w.heap.size 5 1 v' (l ++ x).length (Lib.byteCells (l ++ x)) ∧ Below w.heap.size w w' := by
  refine ⟨?_, ((hw.trans hq)).grown hg (Nat.le_trans hw.size hq.size) (fun r e => (h.lt r e).1)⟩
  rw [List.length_append]
  have : Lib.byteCells (l ++ x) = Lib.byteCells l ++ Lib.byteCells x := by simp [Lib.byteCells]
  rw [this]; exact ho
set_option maxRecDepth 100000 in
set_option maxHeartbeats 8000000 in
theorem rquoted_any (s : ByteArray) (w : World) (hl : (quoteF s).length ≤ 140737488355000) : Calls Tryd.prog 58 #[.string s] w (RowB (quoteF s) w) := by
  have hq : (quoteF s).length = (s.data.toList.flatMap quoteC).length + 2 := by simp [quoteF]
  have hs : s.size ≤ 140737488355000 := by
    have : s.data.toList.length ≤ (s.data.toList.flatMap quoteC).length := by
      generalize s.data.toList = L
      induction L with
      | nil => simp
      | cons c L ih =>
        have : 1 ≤ (quoteC c).length := by unfold quoteC; split; simp; split <;> simp
        simp only [List.flatMap_cons, List.length_append, List.length_cons]; omega
    have h2 : s.data.toList.length = s.size := by simp
    omega
  have HL := Lib.hid hl; have HQ := Lib.hid hq
  clear hl hq
  obtain ⟨i0, hi1, hi2, hi3, hi4⟩ := info_parts infoU8
  have HI := Lib.hid (And.intro hi1 (And.intro hi2 (And.intro hi3 hi4)))
  clear hi1 hi2 hi3 hi4
  go_enter Tryd.func58, Tryd.ntmps58
  go_wp2_with fail
  have H0 : Hid ((w.alloc (.cells #[.int .u8 34] 5)).ownsRow w.heap.size 5 1 (.slice (some ⟨w.heap.size, 0, none⟩) 1 1) (34 :: (s.data.toList.take 0).flatMap quoteC).length (Lib.byteCells (34 :: (s.data.toList.take 0).flatMap quoteC)) ∧ Below w.heap.size w (w.alloc (.cells #[.int .u8 34] 5))) := Lib.hid ⟨⟨rfl, .inr ⟨w.heap.size, 1, #[.int .u8 34], rfl, Nat.le_refl _, Blk.new w _ _, Nat.le_refl _, by unfold maxLen; omega, rfl, rfl⟩⟩, (Below.refl _ w).alloc (Nat.le_refl _) _⟩
  go_loopw [4, 5] (fun v i wr => ∃ k : Nat, k ≤ s.size ∧ i = .int .i64 k ∧ Hid (wr.ownsRow w.heap.size 5 1 v (34 :: (s.data.toList.take k).flatMap quoteC).length (Lib.byteCells (34 :: (s.data.toList.take k).flatMap quoteC)) ∧ Below w.heap.size w wr)) (fun _ i _ => s.size - (intOf i).toNat)
  case atStart => exact ⟨0, by omega, rfl, H0⟩
  case round =>
    obtain ⟨k, hk, rfl, HP⟩ := hrel
    obtain ⟨ao, ca, hao⟩ := own_slice HP.out.1
    subst hao
    by_cases hlt : k < s.size
    · have hlt2 : (k : Int) < (s.size : Int) := by omega
      have HS := Lib.hid (quote_step hlt)
      have HLE : Hid ((34 :: (s.data.toList.take k).flatMap quoteC).length + (quoteC s[k]).length ≤ 140737488355000) := Lib.hid (by
        have := quote_mono (s := s) (k := k + 1)
        rw [quote_step hlt] at this
        have h1 := HL.out
        have h2 := HQ.out
        simp only [List.length_cons, List.length_append] at *
        omega)
      generalize hc : s[k] = c at *
      have hcl := c.toNat_lt
      have HNX : Hid (∀ W v, (W.ownsRow w.heap.size 5 1 v (34 :: (s.data.toList.take k).flatMap quoteC ++ quoteC c).length (Lib.byteCells (34 :: (s.data.toList.take k).flatMap quoteC ++ quoteC c)) ∧ Below w.heap.size w W) → (W.ownsRow w.heap.size 5 1 v (34 :: (s.data.toList.take (k + 1)).flatMap quoteC).length (Lib.byteCells (34 :: (s.data.toList.take (k + 1)).flatMap quoteC)) ∧ Below w.heap.size w W)) := Lib.hid (fun W v hW => by rw [HS.out]; exact hW)
      clear HS
      generalize hLd : 34 :: (s.data.toList.take k).flatMap quoteC = Ld at *
      have HBS := Lib.hid HP.out.2.size
      clear hLd
      by_cases h1 : c.toNat = 34 ∨ c.toNat = 92
      · have hq : quoteC c = [92, c] := by
          unfold quoteC
          rw [if_pos]
          rcases h1 with h1 | h1
          · exact .inl (UInt8.toNat_inj.1 (by rw [h1]; rfl))
          · exact .inr (UInt8.toNat_inj.1 (by rw [h1]; rfl))
        rw [hq] at HLE HNX
        have hle := HLE.out
        simp only [List.length_cons, List.length_nil] at hle
        have d34 : ((c.toNat : Int) == 34) = true ∨ (((c.toNat : Int) == 34) = false ∧ ((c.toNat : Int) == 92) = true) := by
          rcases h1 with h1 | h1
          · exact .inl (by rw [h1]; rfl)
          · exact .inr ⟨by rw [h1]; rfl, by rw [h1]; rfl⟩
        have hown := own_below HP.out.1 ((Below.refl _ wr).alloc (Nat.le_refl _) (.cells #[.int .u8 92, .int .u8 c.toNat] 5))
        have hbs := HBS.out
        obtain ⟨hi1, hi2, hi3, hi4⟩ := HI.out
        clear h1 hq
        rcases d34 with d1 | ⟨d1, d2⟩
        all_goals
          go_wp2_with (at_builtin; refine wpList_append_own _ rfl (.tmp 23) (.tmp 25) 43 rfl w.heap.size 5 i0 (.int .u8 0) 1 1 Tryd.underlying43 hi1 hi2 hi3 hi4 rfl (by decide) _ _ _ rfl hown ⟨wr.heap.size, 0, none⟩ 2 2 [.int .u8 92, .int .u8 c.toNat] rfl rfl (World.news_of_block (Blk.new wr _ _)) (by intro u hu; simp only [List.mem_cons, List.not_mem_nil, or_false] at hu; rcases hu with rfl | rfl <;> rfl) (by unfold maxLen; omega) (by omega) (by simp; omega) ?_)
          intro v' w' ho hg _
          have HN := Lib.hid (HNX.out w' v' (row_more (x := [92, c]) HP.out.2 HP.out.1 ((Below.refl _ wr).mono hbs |>.alloc (by omega) _) ho hg))
          clear ho hg hown hi1 hi2 hi3 hi4
          go_wp2_with fail
          go_roundw
          case rel => exact ⟨k + 1, by omega, by go_num, HN⟩
          case measure => simp [intOf]; omega
      · have hn : ¬ (c = 34 ∨ c = 92) := by
          rintro (rfl | rfl) <;> exact h1 (by decide)
        have d1 : ((c.toNat : Int) == 34) = false := by rw [beq_eq_false_iff_ne]; omega
        have d2 : ((c.toNat : Int) == 92) = false := by rw [beq_eq_false_iff_ne]; omega
        obtain ⟨hi1, hi2, hi3, hi4⟩ := HI.out
        have hbs := HBS.out
        by_cases h2 : c.toNat < 32 ∨ 127 ≤ c.toNat
        · have hq : quoteC c = [92, 120, hexD (c.toNat / 16), hexD (c.toNat % 16)] := by unfold quoteC; rw [if_neg hn, if_pos h2]
          rw [hq] at HLE HNX
          have hle := HLE.out
          simp only [List.length_cons, List.length_nil] at hle
          have d34 : decide (32 ≤ (c.toNat : Int)) = false ∨ (decide (32 ≤ (c.toNat : Int)) = true ∧ decide ((c.toNat : Int) < 127) = false) := by
            by_cases h3 : c.toNat < 32
            · exact .inl (decide_eq_false (by omega))
            · exact .inr ⟨decide_eq_true (by omega), decide_eq_false (by omega)⟩
          have hw1 : IntKind.u8.wrap ((c.toNat : Int) / 16) = (c.toNat : Int) / 16 := IntWalk.u8_in _ (by omega)
          have hw2 : IntKind.u8.wrap ((c.toNat : Int) % 16) = (c.toNat : Int) % 16 := IntWalk.u8_in _ (by omega)
          have hv1 : ((c.toNat : Int) / 16).toNat = c.toNat / 16 := by omega
          have hv2 : ((c.toNat : Int) % 16).toNat = c.toNat % 16 := by omega
          have hu1 : (c.toNat : Int) / 16 < 16 := by omega
          have hz1 : 0 ≤ (c.toNat : Int) / 16 := by omega
          have hz2 : 0 ≤ (c.toNat : Int) % 16 := by omega
          have hu2 : (c.toNat : Int) % 16 < 16 := by omega
          have htm : (c.toNat : Int).tmod 16 = (c.toNat : Int) % 16 := Int.tmod_eq_emod_of_nonneg (by omega)
          have hl1 : c.toNat / 16 < 16 := by omega
          have hl2 : c.toNat % 16 < 16 := by omega
          clear h1 h2 hq hn
          rcases d34 with d3 | ⟨d3, d4⟩
          · go_upto_region 11 with fail
            refine wp_region_held_drew (S := fun V => Below w.heap.size w V) (by kernel_rfl) HP.out.2.drew (fun hSd0 => ?_)
            refine' wpAnyH_take (i := 0) (v := _) (by simp only [List.getElem?_toArray, List.getElem?_cons_zero]; rfl) (by kernel_rfl) (by kernel_rfl) (by kernel_rfl) (by exact fun _ _ _ h => h) (Or.inl ⟨by rfl, ?hyd0⟩) hSd0 ?restd0
            case hyd0 => intro V hSw; clear hSw; go_simp; try with_reducible rfl
            try simp only [Act.put, List.setIfInBounds_toArray, List.set_cons_zero, List.set_cons_succ]
            refine' wpAnyH_take (i := 1) (v := _) (by simp only [List.getElem?_toArray, List.getElem?_cons_succ, List.getElem?_cons_zero]; rfl) (by kernel_rfl) (by kernel_rfl) (by kernel_rfl) (by exact fun _ _ _ h => h) (Or.inl ⟨by rfl, ?hyd1⟩) hSd0 ?restd1
            case hyd1 => intro V hSw; clear hSw; go_simp; try with_reducible rfl
            try simp only [Act.put, List.setIfInBounds_toArray, List.set_cons_zero, List.set_cons_succ]
            refine' wpAnyH_take (i := 2) (v := _) (by simp only [List.getElem?_toArray, List.getElem?_cons_succ, List.getElem?_cons_zero]; rfl) (by kernel_rfl) (by kernel_rfl) (by kernel_rfl) (by exact fun _ _ _ h => h) (Or.inl ⟨by rfl, ?hyd2⟩) hSd0 ?restd2
            case hyd2 => intro V hSw; clear hSw; go_simp; try with_reducible rfl
            try simp only [Act.put, List.setIfInBounds_toArray, List.set_cons_zero, List.set_cons_succ]
            refine' wpAnyH_take (i := 3) (v := _) (by simp only [List.getElem?_toArray, List.getElem?_cons_succ, List.getElem?_cons_zero]; rfl) (by kernel_rfl) (by kernel_rfl) (by kernel_rfl) (by exact fun _ _ _ h => h) (Or.inl ⟨by rfl, ?hyd3⟩) hSd0 ?restd3
            case hyd3 => intro V hSw; clear hSw; go_simp; try with_reducible rfl
            try simp only [Act.put, List.setIfInBounds_toArray, List.set_cons_zero, List.set_cons_succ]
            refine' wpAnyH_take (i := 4) (v := _) (by simp only [List.getElem?_toArray, List.getElem?_cons_succ, List.getElem?_cons_zero]; rfl) (by kernel_rfl) (by kernel_rfl) (by kernel_rfl) (by exact fun _ _ _ h => h) (Or.inl ⟨by rfl, ?hyd4⟩) hSd0 ?restd4
            case hyd4 => intro V hSw; clear hSw; go_simp; try with_reducible rfl
            try simp only [Act.put, List.setIfInBounds_toArray, List.set_cons_zero, List.set_cons_succ]
            refine' wpAnyH_take (i := 5) (v := _) (by simp only [List.getElem?_toArray, List.getElem?_cons_succ, List.getElem?_cons_zero]; rfl) (by kernel_rfl) (by kernel_rfl) (by kernel_rfl) (by exact fun _ _ _ h => h) (Or.inl ⟨by rfl, ?hyd5⟩) hSd0 ?restd5
            case hyd5 => intro V hSw; clear hSw; go_simp; try with_reducible rfl
            try simp only [Act.put, List.setIfInBounds_toArray, List.set_cons_zero, List.set_cons_succ]
            refine' wpAnyH_take (i := 6) (v := _) (by simp only [List.getElem?_toArray, List.getElem?_cons_succ, List.getElem?_cons_zero]; rfl) (by kernel_rfl) (by kernel_rfl) (by kernel_rfl) (by exact fun _ _ _ h => h) (Or.inl ⟨by rfl, ?hyd6⟩) hSd0 ?restd6
            case hyd6 => intro V hSw; clear hSw; go_simp; try with_reducible rfl
            try simp only [Act.put, List.setIfInBounds_toArray, List.set_cons_zero, List.set_cons_succ]
            refine' wpAnyH_take (i := 7) (v := _) (by simp only [List.getElem?_toArray, List.getElem?_cons_succ, List.getElem?_cons_zero]; rfl) (by kernel_rfl) (by kernel_rfl) (by kernel_rfl) (by exact fun _ _ _ h => h) (Or.inl ⟨by rfl, ?hyd7⟩) hSd0 ?restd7
            case hyd7 => intro V hSw; clear hSw; go_simp; try with_reducible rfl
            try simp only [Act.put, List.setIfInBounds_toArray, List.set_cons_zero, List.set_cons_succ]
            refine' wpAnyH_take (i := 8) (v := _) (by simp only [List.getElem?_toArray, List.getElem?_cons_succ, List.getElem?_cons_zero]; rfl) (by kernel_rfl) (by kernel_rfl) (by kernel_rfl) (by exact fun _ _ _ h => h) (Or.inl ⟨by rfl, ?hyd8⟩) hSd0 ?restd8
            case hyd8 => intro V hSw; clear hSw; go_simp; try with_reducible rfl
            try simp only [Act.put, List.setIfInBounds_toArray, List.set_cons_zero, List.set_cons_succ]
            refine wpAnyH_ready (rs := [9]) (by kernel_rfl) (by simp) ?_
            refine' AllReadyH.cons (by simp only [List.getElem?_toArray, List.getElem?_cons_succ, List.getElem?_cons_zero]; rfl) (fun KC hK => ?_) AllReadyH.nil
            go_simp
            refine hK.out _ _ (Below.alloc hSd0 hSd0.size _) (fun hSd1 => ?_)
            clear hK
            try simp only [Act.put, List.setIfInBounds_toArray, List.set_cons_zero, List.set_cons_succ]
            refine wpAnyH_ready (rs := [10]) (by kernel_rfl) (by simp) ?_
            refine' AllReadyH.cons (by simp only [List.getElem?_toArray, List.getElem?_cons_succ, List.getElem?_cons_zero]; rfl) (fun KC hK => ?_) AllReadyH.nil
            rw [hex_at (c.toNat / 16) (by omega), hex_at (c.toNat % 16) (by omega)]
            have hown : (wr.drew.alloc (.cells #[.int .u8 92, .int .u8 120, .int .u8 (hexD (c.toNat / 16)).toNat, .int .u8 (hexD (c.toNat % 16)).toNat] 5)).ownsRow w.heap.size 5 1 (.slice ao Ld.length ca) Ld.length (Lib.byteCells Ld) := own_below HP.out.1 ((Below.refl _ _).drew.alloc (Nat.le_refl _) _)
            refine step_append_any _ rfl (.tmp 37) (.tmp 46) 43 rfl w.heap.size 5 i0 _ 1 1 Tryd.underlying43 hi1 hi2 hi3 hi4 rfl (by decide) _ _ _ rfl hown (wr.heap.size + 1) (some ⟨wr.heap.size, 0, none⟩) 4 4 [.int .u8 92, .int .u8 120, .int .u8 (hexD (c.toNat / 16)).toNat, .int .u8 (hexD (c.toNat % 16)).toNat] rfl ⟨rfl, fun _ => ⟨_, rfl, Nat.lt_succ_self _, World.news_of_block (Blk.new wr.drew _ _)⟩⟩ (by intro u hu; simp only [List.mem_cons, List.not_mem_nil, or_false] at hu; rcases hu with rfl | rfl | rfl | rfl <;> rfl) (by unfold maxLen; omega) (by omega) (by simp; omega) ?_
            intro v' w' ho hg _
            have HN := Lib.hid (HNX.out w' v' (row_more (x := [92, 120, hexD (c.toNat / 16), hexD (c.toNat % 16)]) HP.out.2 HP.out.1 ((((Below.refl w.heap.size wr).drew).alloc hbs _)) ho hg))
            clear ho hg hown
            refine hK.out _ _ HN.out.2 (fun hSd2 => ?_)
            clear hK
            try simp only [Act.put, List.setIfInBounds_toArray, List.set_cons_zero, List.set_cons_succ]
            refine' wpAnyH_take (i := 11) (v := _) (by simp only [List.getElem?_toArray, List.getElem?_cons_succ, List.getElem?_cons_zero]; rfl) (by kernel_rfl) (by kernel_rfl) (by kernel_rfl) (by exact fun _ _ _ h => h) (Or.inl ⟨by rfl, ?hyd11⟩) hSd2 ?restd11
            case hyd11 => intro V hSw; clear hSw; go_simp; try with_reducible rfl
            try simp only [Act.put, List.setIfInBounds_toArray, List.set_cons_zero, List.set_cons_succ]
            refine wpAnyH_done (by kernel_rfl) ?_ _
            clear hSd0 hSd1 hSd2 hi1 hi2 hi3 hi4
            go_wp2_with fail
            go_roundw
            case rel => exact ⟨k + 1, by omega, by go_num, HN⟩
            case measure => simp [intOf]; omega
          · go_upto_region 11 with fail
            refine wp_region_held_drew (S := fun V => Below w.heap.size w V) (by kernel_rfl) HP.out.2.drew (fun hSd0 => ?_)
            refine' wpAnyH_take (i := 0) (v := _) (by simp only [List.getElem?_toArray, List.getElem?_cons_zero]; rfl) (by kernel_rfl) (by kernel_rfl) (by kernel_rfl) (by exact fun _ _ _ h => h) (Or.inl ⟨by rfl, ?hyf0⟩) hSd0 ?restf0
            case hyf0 => intro V hSw; clear hSw; go_simp; try with_reducible rfl
            try simp only [Act.put, List.setIfInBounds_toArray, List.set_cons_zero, List.set_cons_succ]
            refine' wpAnyH_take (i := 1) (v := _) (by simp only [List.getElem?_toArray, List.getElem?_cons_succ, List.getElem?_cons_zero]; rfl) (by kernel_rfl) (by kernel_rfl) (by kernel_rfl) (by exact fun _ _ _ h => h) (Or.inl ⟨by rfl, ?hyf1⟩) hSd0 ?restf1
            case hyf1 => intro V hSw; clear hSw; go_simp; try with_reducible rfl
            try simp only [Act.put, List.setIfInBounds_toArray, List.set_cons_zero, List.set_cons_succ]
            refine' wpAnyH_take (i := 2) (v := _) (by simp only [List.getElem?_toArray, List.getElem?_cons_succ, List.getElem?_cons_zero]; rfl) (by kernel_rfl) (by kernel_rfl) (by kernel_rfl) (by exact fun _ _ _ h => h) (Or.inl ⟨by rfl, ?hyf2⟩) hSd0 ?restf2
            case hyf2 => intro V hSw; clear hSw; go_simp; try with_reducible rfl
            try simp only [Act.put, List.setIfInBounds_toArray, List.set_cons_zero, List.set_cons_succ]
            refine' wpAnyH_take (i := 3) (v := _) (by simp only [List.getElem?_toArray, List.getElem?_cons_succ, List.getElem?_cons_zero]; rfl) (by kernel_rfl) (by kernel_rfl) (by kernel_rfl) (by exact fun _ _ _ h => h) (Or.inl ⟨by rfl, ?hyf3⟩) hSd0 ?restf3
            case hyf3 => intro V hSw; clear hSw; go_simp; try with_reducible rfl
            try simp only [Act.put, List.setIfInBounds_toArray, List.set_cons_zero, List.set_cons_succ]
            refine' wpAnyH_take (i := 4) (v := _) (by simp only [List.getElem?_toArray, List.getElem?_cons_succ, List.getElem?_cons_zero]; rfl) (by kernel_rfl) (by kernel_rfl) (by kernel_rfl) (by exact fun _ _ _ h => h) (Or.inl ⟨by rfl, ?hyf4⟩) hSd0 ?restf4
            case hyf4 => intro V hSw; clear hSw; go_simp; try with_reducible rfl
            try simp only [Act.put, List.setIfInBounds_toArray, List.set_cons_zero, List.set_cons_succ]
            refine' wpAnyH_take (i := 5) (v := _) (by simp only [List.getElem?_toArray, List.getElem?_cons_succ, List.getElem?_cons_zero]; rfl) (by kernel_rfl) (by kernel_rfl) (by kernel_rfl) (by exact fun _ _ _ h => h) (Or.inl ⟨by rfl, ?hyf5⟩) hSd0 ?restf5
            case hyf5 => intro V hSw; clear hSw; go_simp; try with_reducible rfl
            try simp only [Act.put, List.setIfInBounds_toArray, List.set_cons_zero, List.set_cons_succ]
            refine' wpAnyH_take (i := 6) (v := _) (by simp only [List.getElem?_toArray, List.getElem?_cons_succ, List.getElem?_cons_zero]; rfl) (by kernel_rfl) (by kernel_rfl) (by kernel_rfl) (by exact fun _ _ _ h => h) (Or.inl ⟨by rfl, ?hyf6⟩) hSd0 ?restf6
            case hyf6 => intro V hSw; clear hSw; go_simp; try with_reducible rfl
            try simp only [Act.put, List.setIfInBounds_toArray, List.set_cons_zero, List.set_cons_succ]
            refine' wpAnyH_take (i := 7) (v := _) (by simp only [List.getElem?_toArray, List.getElem?_cons_succ, List.getElem?_cons_zero]; rfl) (by kernel_rfl) (by kernel_rfl) (by kernel_rfl) (by exact fun _ _ _ h => h) (Or.inl ⟨by rfl, ?hyf7⟩) hSd0 ?restf7
            case hyf7 => intro V hSw; clear hSw; go_simp; try with_reducible rfl
            try simp only [Act.put, List.setIfInBounds_toArray, List.set_cons_zero, List.set_cons_succ]
            refine' wpAnyH_take (i := 8) (v := _) (by simp only [List.getElem?_toArray, List.getElem?_cons_succ, List.getElem?_cons_zero]; rfl) (by kernel_rfl) (by kernel_rfl) (by kernel_rfl) (by exact fun _ _ _ h => h) (Or.inl ⟨by rfl, ?hyf8⟩) hSd0 ?restf8
            case hyf8 => intro V hSw; clear hSw; go_simp; try with_reducible rfl
            try simp only [Act.put, List.setIfInBounds_toArray, List.set_cons_zero, List.set_cons_succ]
            refine wpAnyH_ready (rs := [9]) (by kernel_rfl) (by simp) ?_
            refine' AllReadyH.cons (by simp only [List.getElem?_toArray, List.getElem?_cons_succ, List.getElem?_cons_zero]; rfl) (fun KC hK => ?_) AllReadyH.nil
            go_simp
            refine hK.out _ _ (Below.alloc hSd0 hSd0.size _) (fun hSd1 => ?_)
            clear hK
            try simp only [Act.put, List.setIfInBounds_toArray, List.set_cons_zero, List.set_cons_succ]
            refine wpAnyH_ready (rs := [10]) (by kernel_rfl) (by simp) ?_
            refine' AllReadyH.cons (by simp only [List.getElem?_toArray, List.getElem?_cons_succ, List.getElem?_cons_zero]; rfl) (fun KC hK => ?_) AllReadyH.nil
            rw [hex_at (c.toNat / 16) (by omega), hex_at (c.toNat % 16) (by omega)]
            have hown : (wr.drew.alloc (.cells #[.int .u8 92, .int .u8 120, .int .u8 (hexD (c.toNat / 16)).toNat, .int .u8 (hexD (c.toNat % 16)).toNat] 5)).ownsRow w.heap.size 5 1 (.slice ao Ld.length ca) Ld.length (Lib.byteCells Ld) := own_below HP.out.1 ((Below.refl _ _).drew.alloc (Nat.le_refl _) _)
            refine step_append_any _ rfl (.tmp 37) (.tmp 46) 43 rfl w.heap.size 5 i0 _ 1 1 Tryd.underlying43 hi1 hi2 hi3 hi4 rfl (by decide) _ _ _ rfl hown (wr.heap.size + 1) (some ⟨wr.heap.size, 0, none⟩) 4 4 [.int .u8 92, .int .u8 120, .int .u8 (hexD (c.toNat / 16)).toNat, .int .u8 (hexD (c.toNat % 16)).toNat] rfl ⟨rfl, fun _ => ⟨_, rfl, Nat.lt_succ_self _, World.news_of_block (Blk.new wr.drew _ _)⟩⟩ (by intro u hu; simp only [List.mem_cons, List.not_mem_nil, or_false] at hu; rcases hu with rfl | rfl | rfl | rfl <;> rfl) (by unfold maxLen; omega) (by omega) (by simp; omega) ?_
            intro v' w' ho hg _
            have HN := Lib.hid (HNX.out w' v' (row_more (x := [92, 120, hexD (c.toNat / 16), hexD (c.toNat % 16)]) HP.out.2 HP.out.1 ((((Below.refl w.heap.size wr).drew).alloc hbs _)) ho hg))
            clear ho hg hown
            refine hK.out _ _ HN.out.2 (fun hSd2 => ?_)
            clear hK
            try simp only [Act.put, List.setIfInBounds_toArray, List.set_cons_zero, List.set_cons_succ]
            refine' wpAnyH_take (i := 11) (v := _) (by simp only [List.getElem?_toArray, List.getElem?_cons_succ, List.getElem?_cons_zero]; rfl) (by kernel_rfl) (by kernel_rfl) (by kernel_rfl) (by exact fun _ _ _ h => h) (Or.inl ⟨by rfl, ?hyf11⟩) hSd2 ?restf11
            case hyf11 => intro V hSw; clear hSw; go_simp; try with_reducible rfl
            try simp only [Act.put, List.setIfInBounds_toArray, List.set_cons_zero, List.set_cons_succ]
            refine wpAnyH_done (by kernel_rfl) ?_ _
            clear hSd0 hSd1 hSd2 hi1 hi2 hi3 hi4
            go_wp2_with fail
            go_roundw
            case rel => exact ⟨k + 1, by omega, by go_num, HN⟩
            case measure => simp [intOf]; omega
        · have hq : quoteC c = [c] := by unfold quoteC; rw [if_neg hn, if_neg h2]
          rw [hq] at HLE HNX
          have hle := HLE.out
          simp only [List.length_cons, List.length_nil] at hle
          have d3 : decide (32 ≤ (c.toNat : Int)) = true := decide_eq_true (by omega)
          have d4 : decide ((c.toNat : Int) < 127) = true := decide_eq_true (by omega)
          have hown := own_below HP.out.1 ((Below.refl _ wr).alloc (Nat.le_refl _) (.cells #[.int .u8 c.toNat] 5))
          clear h1 h2 hq hn
          go_wp2_with (at_builtin; refine wpList_append_own _ rfl (.tmp 33) (.tmp 35) 43 rfl w.heap.size 5 i0 (.int .u8 0) 1 1 Tryd.underlying43 hi1 hi2 hi3 hi4 rfl (by decide) _ _ _ rfl hown ⟨wr.heap.size, 0, none⟩ 1 1 [.int .u8 c.toNat] rfl rfl (World.news_of_block (Blk.new wr _ _)) (by intro u hu; simp only [List.mem_cons, List.not_mem_nil, or_false] at hu; subst hu; rfl) (by unfold maxLen; omega) (by omega) (by simp; omega) ?_)
          intro v' w' ho hg _
          have HN := Lib.hid (HNX.out w' v' (row_more (x := [c]) HP.out.2 HP.out.1 ((Below.refl _ wr).mono hbs |>.alloc (by omega) _) ho hg))
          clear ho hg hown hi1 hi2 hi3 hi4
          go_wp2_with fail
          go_roundw
          case rel => exact ⟨k + 1, by omega, by go_num, HN⟩
          case measure => simp [intOf]; omega
    · obtain rfl : k = s.size := by omega
      have HTK : Hid ((s.data.toList.take s.size) = s.data.toList) := Lib.hid (List.take_of_length_le (by simp))
      rw [HTK.out] at HP ⊢
      have hle : (34 :: s.data.toList.flatMap quoteC).length + 1 ≤ 140737488355000 := by
        have h1 := HL.out; have h2 := HQ.out
        simp only [List.length_cons]; omega
      have HQF : Hid (quoteF s = (34 :: s.data.toList.flatMap quoteC) ++ [34]) := Lib.hid (by simp [quoteF])
      generalize 34 :: s.data.toList.flatMap quoteC = Ld at *
      have hown := own_below HP.out.1 ((Below.refl _ wr).alloc (Nat.le_refl _) (.cells #[.int .u8 34] 5))
      have hbs := HP.out.2.size
      obtain ⟨hi1, hi2, hi3, hi4⟩ := HI.out
      go_wp2_with (at_builtin; refine wpList_append_own _ rfl (.tmp 48) (.tmp 49) 43 rfl w.heap.size 5 i0 (.int .u8 0) 1 1 Tryd.underlying43 hi1 hi2 hi3 hi4 rfl (by decide) _ _ _ rfl hown ⟨wr.heap.size, 0, none⟩ 1 1 [.int .u8 34] rfl rfl (World.news_of_block (Blk.new wr _ _)) (by intro u hu; simp only [List.mem_cons, List.not_mem_nil, or_false] at hu; subst hu; rfl) (by unfold maxLen; omega) (by omega) (by simp; omega) ?_)
      intro v' w' ho hg _
      have HN := Lib.hid (row_more (x := [34]) HP.out.2 HP.out.1 ((Below.refl _ wr).mono hbs |>.alloc (by omega) _) ho hg)
      clear ho hg hown hi1 hi2 hi3 hi4
      go_wp2_with fail
      go_ret
      exact ⟨_, rfl, by rw [HQF.out]; exact HN.out.1, HN.out.2⟩
end Go.Proofs.YtinmiekbhoemjaaDoor.Qry
