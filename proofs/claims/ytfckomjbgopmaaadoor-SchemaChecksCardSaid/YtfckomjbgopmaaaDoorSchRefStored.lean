/- Contract: the document's stored entries. -/
import Derived.Test.YtfckomjbgopmaaaDoorSchClone
import Derived.Test.YtfckomjbgopmaaaDoorSchFind
set_option linter.unusedVariables false
namespace Go.Proofs.YtfckomjbgopmaaaDoor.Sch
open Go.RowKit Words Tree SchP Kit Owned

theorem keepB_none {l : List FT} {e : ET} (h : findF l e.field = none) : keepB l e = false := by unfold keepB; rw [h]
theorem keepB_some {l : List FT} {e : ET} {i : Nat} (h : findF l e.field = some i) (hi : i < l.length) : keepB l e = l[i].stored := by unfold keepB; rw [h]; simp [hi]
theorem storedF_yes {l : List FT} {d : List ET} {k : Nat} (h : k < d.length) (hk : keepB l d[k] = true) : storedF l (d.take (k + 1)) = storedF l (d.take k) ++ [d[k]] := by rw [storedF_snoc l h, hk]; rfl
theorem storedF_no {l : List FT} {d : List ET} {k : Nat} (h : k < d.length) (hk : keepB l d[k] = false) : storedF l (d.take (k + 1)) = storedF l (d.take k) := by rw [storedF_snoc l h, hk]; simp
theorem storedF_len (l : List FT) (d : List ET) (k : Nat) : (storedF l (d.take k)).length ≤ k := Nat.le_trans (List.length_filter_le _ _) (by simp; omega)

set_option maxRecDepth 100000 in
set_option maxHeartbeats 4000000 in
theorem refStored_any (u x : Value) (l : List FT) (d : List ET) (w : World) (hu : T.At bare w (fun g => g < w.heap.size) (fieldsT l) u) (hl : l.length * 72 ≤ 140737488351232)
    (hx : T.At bare w (fun g => g < w.heap.size) (entriesT d) x) (hd : d.length * 56 ≤ 140737488351232) (ok : ∀ e ∈ d, EOk e) :
    Calls Tryd.prog 14 #[.agg #[u], .agg #[x]] w (FreshT (entriesT (storedF l d)) w) := by
  have HFI := Lib.hid (fun (s : ByteArray) (W : World) (hW : Below w.heap.size w W) => refFind_any u l s W (At.below hu hW (fun g hg => Nat.lt_of_lt_of_le hg hW.size)) hl)
  obtain ⟨A, cA, rfl, hcA, hmA, eA⟩ := at_row fcells_len hu
  obtain ⟨D, cD, rfl, hcD, hmD, eD⟩ := at_row ecells_len hx
  have EA := Lib.hid eA; have ED := Lib.hid eD; have OK := Lib.hid ok
  clear hu hx eA eD ok
  go_enter Tryd.func14, Tryd.ntmps14
  go_wp2_with fail
  have HB := Lib.hid (below2 (w := w) (.cells #[.slice A l.length cA] 24) (.cells #[.slice D d.length cD] 27))
  have BA := Lib.hid (blk_a w #[.slice A l.length cA] #[.slice D d.length cD] 24 27)
  have BB := Lib.hid (blk_b w #[.slice A l.length cA] #[.slice D d.length cD] 24 27)
  have hzW : ((w.alloc (Obj.cells #[.slice A l.length cA] 24)).alloc (Obj.cells #[.slice D d.length cD] 27)).heap.size = w.heap.size + 2 := by simp
  generalize (w.alloc (Obj.cells #[.slice A l.length cA] 24)).alloc (Obj.cells #[.slice D d.length cD] 27) = W at *
  go_loopw [5, 6] (fun v i wr => ∃ k : Nat, k ≤ d.length ∧ i = .int .i64 k ∧ Hid (RowG bare 53 3 ecells none W.heap.size wr v (storedF l (d.take k))) ∧ Hid (Below W.heap.size W wr)) (fun _ i _ => d.length - (intOf i).toNat)
  case atStart => exact ⟨0, by omega, rfl, Lib.hid (by simpa [storedF] using rowG_nil W), Lib.hid (Below.refl _ _)⟩
  case round =>
    obtain ⟨k, hkk, rfl, HK, HW⟩ := hrel
    have BA2 := Lib.hid (BA.out.below HW.out (by omega))
    have BB2 := Lib.hid (BB.out.below HW.out (by omega))
    have hA : wr.cell? ⟨w.heap.size, 0, none⟩ = some (.slice A l.length cA) := BA2.out.cell 0
    have hD : wr.cell? ⟨w.heap.size + 1, 0, none⟩ = some (.slice D d.length cD) := BB2.out.cell 0
    have hzr := HW.out.size
    have HWW : Hid (Below w.heap.size w wr) := Lib.hid (HB.out.trans (HW.out.mono HB.out.size))
    by_cases hlt : k < d.length
    · obtain ⟨ad, us, rfl, hba, au, lu, cu⟩ := ED.out k hlt
      replace cu := cu.keep (w' := wr) (fun p hp => HWW.out.cell (by rw [hp, block_of_add]; exact hba))
      have HO := Lib.hid (OK.out _ (List.getElem_mem hlt))
      have HY := Lib.hid (storedF_yes (l := l) hlt)
      have HN := Lib.hid (storedF_no (l := l) hlt)
      have HKN : Hid (findF l (d[k]'hlt).field = none → keepB l (d[k]'hlt) = false) := Lib.hid keepB_none
      have HKS : Hid (∀ (i : Nat) (hi : i < l.length), findF l (d[k]'hlt).field = some i → keepB l (d[k]'hlt) = l[i].stored) := Lib.hid (fun i hi hq => keepB_some hq hi)
      have HFZ := Lib.hid (findZ_eq l d[k].field)
      generalize d[k] = e at *
      obtain ⟨vc, rfl, gc⟩ := at_ecells au
      obtain ⟨X, z, rfl, hz, hmz, hrd⟩ := at_nums gc
      have HRD := Lib.hid hrd
      have HF := Lib.hid (fun (V : World) (hV : Below w.heap.size w V) => HFI.out e.field V hV)
      obtain ⟨a0, a1, a2⟩ := three cu
      have CU := Lib.hid cu
      have hblk : (ad.add (k * 3)).block < w.heap.size := by rw [block_of_add]; exact hba
      clear cu au lu gc hrd
      go_upto_region 5 with fail
      have hBW : Below w.heap.size w ({ wr with drawn := wr.drawn + 1 } : World) := HWW.out.trans ⟨rfl, rfl, rfl, Nat.le_refl _, fun _ _ => rfl⟩
      have hBV : Below wr.heap.size wr ({ wr with drawn := wr.drawn + 1 } : World) := ⟨rfl, rfl, rfl, Nat.le_refl _, fun _ _ => rfl⟩
      change ({ wr with drawn := wr.drawn + 1 } : World).cell? _ = _ at hA hD a0 a1 a2
      refine wp_region_still_tail 7 (by kernel_rfl) (by kernel_rfl) ?_
      simp only [List.take_succ_cons, List.take_zero, List.drop_succ_cons, List.drop_zero]
      generalize ({ wr with drawn := wr.drawn + 1 } : World) = V at *
      repeat still_step
      refine wpStill_nil ?_
      change wpList _ _ _ _ _ _
      have HBW := Lib.hid hBW; have HBV := Lib.hid hBV; clear hBW hBV a0 a1 a2 hA hD
      go_wp2_with fail
      refine (HF.out _ HBW.out).mono ?_
      rintro e' W1 ⟨rfl, b1⟩
      have HB1 := Lib.hid (HBV.out.trans (b1.mono HBV.out.size))
      have HWB := Lib.hid (HBW.out.trans (b1.mono HBW.out.size))
      have BA3 := Lib.hid (BA2.out.below HB1.out BA2.out.lt)
      have BB3 := Lib.hid (BB2.out.below HB1.out BB2.out.lt)
      have hzr1 := HB1.out.size
      clear b1
      rw [HFZ.out]
      cases hfi : findF l e.field with
      | none =>
        have HE : Hid (storedF l (d.take (k + 1)) = storedF l (d.take k)) := Lib.hid (HN.out (HKN.out hfi))
        clear hfi
        dsimp only [zOf]
        go_wp2_with fail
        go_roundw
        case rel => exact ⟨k + 1, by omega, by go_num, Lib.hid (by rw [HE.out]; exact rowG_below HK.out HB1.out), Lib.hid (HW.out.trans (HB1.out.mono HW.out.size))⟩
        case measure => simp [intOf]; omega
      | some i =>
        obtain ⟨hil, _, _⟩ := findF_some hfi
        have HKK := Lib.hid (HKS.out i hil hfi)
        clear hfi
        obtain ⟨sd, us2, rfl, hbs, asx, ls, cs⟩ := EA.out i hil
        replace cs := cs.keep (w' := W1) (fun p hp => HWB.out.cell (by rw [hp, block_of_add]; exact hbs))
        generalize l[i] = f at *
        obtain ⟨vs, rfl, -⟩ := at_fcells asx
        obtain ⟨-, -, -, -, -, -, s6⟩ := seven cs
        obtain ⟨f0, f1, f2, f3, f4, f5, f6⟩ := f
        dsimp only [zOf] at *
        have hA : W1.cell? ⟨w.heap.size, 0, none⟩ = some (.slice (some sd) l.length cA) := BA3.out.cell 0
        have hi0 : decide ((0 : Int) ≤ (i : Int)) = true := decide_eq_true (by omega)
        clear cs asx ls
        cases f6 with
        | false =>
          have HE : Hid (storedF l (d.take (k + 1)) = storedF l (d.take k)) := Lib.hid (HN.out HKK.out)
          go_wp2_with fail
          go_roundw
          case rel => exact ⟨k + 1, by omega, by go_num, Lib.hid (by rw [HE.out]; exact rowG_below HK.out HB1.out), Lib.hid (HW.out.trans (HB1.out.mono HW.out.size))⟩
          case measure => simp [intOf]; omega
        | true =>
          have HE : Hid (storedF l (d.take (k + 1)) = storedF l (d.take k) ++ [e]) := Lib.hid (HY.out HKK.out)
          have hD : W1.cell? ⟨w.heap.size + 1, 0, none⟩ = some (.slice (some ad) d.length cD) := BB3.out.cell 0
          obtain ⟨a0, a1, a2⟩ := three (CU.out.keep (w' := W1) (fun p hp => HB1.out.cell (by rw [hp]; have := HWW.out.size; omega)))
          have hln := storedF_len l d k
          have HRK := Lib.hid (rowG_below HK.out HB1.out)
          have HWN := Lib.hid (HW.out.trans (HB1.out.mono HW.out.size))
          have HRDV := Lib.hid ((HRD.out.below HWB.out).more HWB.out.size)
          have HLN := Lib.hid HO.out.nums.1
          obtain ⟨i0, hi1, hi2, hi3, hi4⟩ := info_parts infoI64
          clear CU HF HFZ HKN HKS HKK HN HY HK
          go_upto_region 8 with fail
          have BE := Lib.hid (Blk.new W1 53 #[.string e.field, .string e.text, .slice X e.nums.length z])
          have HB2 := Lib.hid ((Below.refl _ W1).alloc (Nat.le_refl _) (.cells #[.string e.field, .string e.text, .slice X e.nums.length z] 53))
          have hz2 : W1.heap.size + 1 ≤ (W1.alloc (.cells #[.string e.field, .string e.text, .slice X e.nums.length z] 53)).heap.size := by simp
          generalize (W1.alloc (.cells #[.string e.field, .string e.text, .slice X e.nums.length z] 53)) = W2 at *
          have b2 : W2.cell? ⟨W1.heap.size, 2, none⟩ = some (.slice X e.nums.length z) := BE.out.cell 2
          have f2 : W2.frozen? ⟨W1.heap.size, 2, none⟩ = false := BE.out.frozen 2
          have hzz : W1.heap.size < W2.heap.size := by omega
          clear a0 a1 a2 hA hD s6
          go_wp2_with (at_builtin; refine wpList_append_any _ rfl (.tmp 39) (.tmp 41) 51 rfl W2.heap.size 2 i0 (.int .i64 0) 1 8 Tryd.underlying51 hi1 hi2 hi3 hi4 rfl (by decide) _ 0 [] rfl (own_empty W2 _ _ _ (Nat.le_refl _)) W2.heap.size X e.nums.length z (e.nums.map (Value.int .i64)) rfl ?c1 ?c2 ?c3 ?c4 ?c5 ?_)
          case c1 => exact (HRDV.out.below HB2.out).more (by omega) |>.alloc (Nat.le_refl _) _
          case c2 => intro u hu; obtain ⟨y, _, rfl⟩ := List.mem_map.1 hu; rfl
          case c3 => have := HLN.out; unfold maxLen; omega
          case c4 => have := HLN.out; omega
          case c5 => simp
          intro v1 w4 ho1 hg1 _
          replace ho1 : w4.ownsRow W2.heap.size 2 1 v1 e.nums.length (e.nums.map (Value.int .i64)) := by simpa using ho1
          have hb4 : Below W2.heap.size W2 w4 := ((Below.refl _ W2).alloc (Nat.le_refl _) _).grown hg1 (by simp) (fun r e => by simp [Value.ownBlock] at e; omega)
          have HAT := Lib.hid (nums_cells ho1)
          obtain ⟨Y, z2, rfl, _, _⟩ := at_slice HAT.out
          have hz4 := hb4.size
          have BE4 := Lib.hid (BE.out.below hb4 BE.out.lt)
          have b2' : w4.cell? ⟨W1.heap.size, 2, none⟩ = some (.slice X e.nums.length z) := BE4.out.cell 2
          have f2' : w4.frozen? ⟨W1.heap.size, 2, none⟩ = false := BE4.out.frozen 2
          have HB4 := Lib.hid (HB2.out.trans (hb4.mono (by omega)))
          clear ho1 hg1 hb4 b2 f2
          go_upto_region 9 with fail
          have BE5 : Hid (Blk (w4.setCell ⟨W1.heap.size, 2, none⟩ (.slice Y e.nums.length z2)) W1.heap.size 53 #[.string e.field, .string e.text, .slice Y e.nums.length z2]) := Lib.hid (BE4.out.set_ 2 _)
          have HB5 : Hid (Below W1.heap.size W1 (w4.setCell ⟨W1.heap.size, 2, none⟩ (.slice Y e.nums.length z2))) := Lib.hid (HB4.out.setCell (Nat.le_refl _) _)
          have AT5 : Hid (T.At bare (w4.setCell ⟨W1.heap.size, 2, none⟩ (.slice Y e.nums.length z2)) (fun g => W1.heap.size ≤ g ∧ CellsAt (w4.setCell ⟨W1.heap.size, 2, none⟩ (.slice Y e.nums.length z2)) g) (numsT .i64 e.nums) (.slice Y e.nums.length z2)) :=
            Lib.hid (At.keep (fun p hp => World.cell?_setCell_other _ _ _ _ (by intro h; subst h; have := hp.1; simp at this; omega)) (fun g h => ⟨by omega, h.2.set _ _⟩) HAT.out)
          clear b2' f2' BE4 HB4 HAT BE HB2 hz2 hzz hz4 HRDV
          generalize w4.setCell ⟨W1.heap.size, 2, none⟩ (.slice Y e.nums.length z2) = W5 at *
          have c0 := BE5.out.cell 0
          have c1 := BE5.out.cell 1
          have c2 : W5.cell? ⟨W1.heap.size, 2, none⟩ = some (.slice Y e.nums.length z2) := BE5.out.cell 2
          obtain ⟨xs, hxo, hxa⟩ := HRK.out
          have HXA := Lib.hid hxa
          have HXO := Lib.hid hxo
          have hown := own_below hxo HB5.out
          have hz5 := HB5.out.size
          obtain ⟨j0, hj1, hj2, hj3, hj4⟩ := info_parts infoE
          clear hxa hxo hi1 hi2 hi3 hi4
          go_wp2_with (at_builtin; refine wpList_append_any _ rfl (.tmp 44) (.tmp 46) 25 rfl W.heap.size 53 j0 _ 3 56 Tryd.underlying25 hj1 hj2 hj3 hj4 rfl (by decide) _ _ xs rfl (hown.alloc _) (W5.heap.size + 1) (some ⟨W5.heap.size, 0, none⟩) 1 1 [.string e.field, .string e.text, .slice Y e.nums.length z2] rfl ?d1 ?d2 ?d3 ?d4 ?d5 ?_)
          case d1 => exact ⟨rfl, fun _ => ⟨_, rfl, by simp, fun j u hu => cells_new W5 [.string e.field, .string e.text, .slice Y e.nums.length z2] _ j u hu⟩⟩
          case d2 => intro u hu; simp only [List.mem_cons, List.not_mem_nil, or_false] at hu; rcases hu with rfl | rfl | rfl <;> rfl
          case d3 => unfold maxLen; omega
          case d4 => omega
          case d5 => simp; omega
          intro v' w6 ho hg hv
          have HST : Hid (RowG bare 53 3 ecells none W.heap.size w6 v' (storedF l (d.take (k + 1)))) := Lib.hid (by
            rw [HE.out]
            rw [← hzW] at ho
            refine rowG_step (us := [.string e.field, .string e.text, .slice Y e.nums.length z2]) (w3 := W5.alloc (.cells #[.string e.field, .string e.text, .slice Y e.nums.length z2] 53)) (by omega) (fun b h => by cases h) HXO.out HXA.out ?_ (HB5.out.alloc HB5.out.size _) ho hg (by simpa using hv)
            refine ecells_mk (At.keep (fun p hp => World.cell?_alloc_lt _ _ _ hp.2.lt) (fun g h => ⟨h.1, h.2.below (Below.alloc (Below.refl _ _) (Nat.le_refl _) _) h.2.lt⟩) AT5.out))
          have HB6 : Hid (Below W.heap.size W w6) := Lib.hid (((HWN.out.trans (HB5.out.mono (by have := HWN.out.size; omega))).alloc (by have := HWN.out.size; omega) _).grown hg (by simp; have := HWN.out.size; omega) (fun r h => (hown.lt r h).1))
          clear ho hg hv hown hj1 hj2 hj3 hj4 c0 c1 c2
          go_wp2_with fail
          go_roundw
          case rel => exact ⟨k + 1, by omega, by go_num, HST, HB6⟩
          case measure => simp [intOf]; omega
    · obtain rfl : k = d.length := by omega
      go_wp2_with fail
      go_ret
      have := HK.out
      rw [List.take_length] at this
      refine ⟨_, rfl, At.keep (fun _ _ => rfl) (fun g hg => ⟨by omega, hg.2⟩) (rowG_at ecells_len this), HWW.out⟩
end Go.Proofs.YtfckomjbgopmaaaDoor.Sch
