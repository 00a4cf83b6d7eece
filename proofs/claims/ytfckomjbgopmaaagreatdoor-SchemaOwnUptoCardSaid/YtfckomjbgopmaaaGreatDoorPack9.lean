/- Contracts: a schema and a document that are lent. Contracts: entries and a document that are lent. Contracts: a field is found by its name: the document's answer, and the program's. -/
import Derived.Test.YtfckomjbgopmaaaGreatDoorPack8
section
set_option linter.unusedVariables false
namespace Go.Proofs.YtfckomjbgopmaaaGreatDoor.Sch
open Go.RowKit Words Tree SchP Kit Owned

theorem below2 {w : World} (o1 o2 : Obj) : Below w.heap.size w ((w.alloc o1).alloc o2) := ((Below.refl _ _).alloc (Nat.le_refl _) _).alloc (by simp) _
theorem blk_a (w : World) (cs ds : Array Value) (t t' : TypeId) : Blk ((w.alloc (.cells cs t)).alloc (.cells ds t')) w.heap.size t cs := (Blk.new w t cs).alloc _
theorem blk_b (w : World) (cs ds : Array Value) (t t' : TypeId) : Blk ((w.alloc (.cells cs t)).alloc (.cells ds t')) (w.heap.size + 1) t' ds := by
  have := Blk.new (w.alloc (.cells cs t)) t' ds
  rwa [World.size_alloc] at this
/-- Seven cells, as the walk spells them. -/
theorem seven {w : World} {ad : Addr} {v0 v1 v2 v3 v4 v5 v6 : Value} (h : Cells w ad [v0, v1, v2, v3, v4, v5, v6]) :
    w.cell? ad = some v0 ∧ w.cell? ⟨ad.block, ad.off + 1, none⟩ = some v1 ∧ w.cell? ⟨ad.block, ad.off + 2, none⟩ = some v2 ∧ w.cell? ⟨ad.block, ad.off + 3, none⟩ = some v3 ∧ w.cell? ⟨ad.block, ad.off + 4, none⟩ = some v4 ∧
    w.cell? ⟨ad.block, ad.off + 5, none⟩ = some v5 ∧ w.cell? ⟨ad.block, ad.off + 6, none⟩ = some v6 :=
  ⟨h.zero, h.at_ 1 _ rfl (by omega), h.at_ 2 _ rfl (by omega), h.at_ 3 _ rfl (by omega), h.at_ 4 _ rfl (by omega), h.at_ 5 _ rfl (by omega), h.at_ 6 _ rfl (by omega)⟩

set_option maxRecDepth 100000 in
set_option maxHeartbeats 4000000 in
theorem lentSchema_any (u : Value) (l : List FT) (w : World) (hu : T.At bare w (fun g => g < w.heap.size) (fieldsT l) u) (hl : l.length * 72 ≤ 140737488351232) (hf : ∀ f ∈ l, FOk f) :
    Calls Tryz.prog 9 #[.agg #[u]] w (fun e w' => ∃ v, e = .returned (.agg #[v]) ∧ T.At lent w' (fun g => w.heap.size ≤ g ∧ g < w'.heap.size) (fieldsT l) v ∧ Below w.heap.size w w') := by
  obtain ⟨A, cap, rfl, hc, hm, hel⟩ := at_row fcells_len hu
  have EL := Lib.hid hel
  clear hel hu
  go_enter Tryz.func9, Tryz.ntmps9
  go_wp2_with fail
  have HB := Lib.hid (below2 (w := w) (.cells #[.slice A l.length cap] 24) (.cells #[.slice none 0 0] 24))
  have BA := Lib.hid (blk_a w #[.slice A l.length cap] #[.slice none 0 0] 24 24)
  have BB := Lib.hid (blk_b w #[.slice A l.length cap] #[.slice none 0 0] 24 24)
  have hzW : ((w.alloc (Obj.cells #[.slice A l.length cap] 24)).alloc (Obj.cells #[.slice none 0 0] 24)).heap.size = w.heap.size + 2 := by simp
  generalize (w.alloc (Obj.cells #[.slice A l.length cap] 24)).alloc (Obj.cells #[.slice none 0 0] 24) = W at *
  go_loopw [3, 4] (fun v i wr => ∃ k : Nat, k ≤ l.length ∧ i = .int .i64 k ∧ Hid (LentRow lent 54 7 fcells W wr v l k)) (fun _ i _ => l.length - (intOf i).toNat)
  case atStart => exact ⟨0, by omega, rfl, Lib.hid (lentRow_zero _ W l)⟩
  case round =>
    obtain ⟨k, hkk, rfl, HK⟩ := hrel
    have HKB : Hid (Below W.heap.size W wr) := Lib.hid (by obtain ⟨_, _, _, h⟩ := HK.out; exact h)
    have BW := Lib.hid (BA.out.below HKB.out (by omega))
    have hzr := HKB.out.size
    have c0 : wr.cell? ⟨w.heap.size, 0, none⟩ = some (.slice A l.length cap) := BW.out.cell 0
    by_cases hlt : k < l.length
    · obtain ⟨ad, us, rfl, hba, au, lu, cu⟩ := EL.out k hlt
      have HWR : Hid (Below w.heap.size w wr) := Lib.hid (HB.out.trans (HKB.out.mono HB.out.size))
      replace cu := cu.keep (w' := wr) (fun p hp => HWR.out.cell (by rw [hp, block_of_add]; exact hba))
      have hab : (ad.add (k * 7)).block < wr.heap.size := by rw [block_of_add]; omega
      have HF := Lib.hid (hf l[k] (List.getElem_mem hlt))
      have HFQ : Hid (∃ f, l[k] = f) := Lib.hid ⟨_, rfl⟩
      obtain ⟨f, hfk⟩ := HFQ.out
      rw [hfk] at au HF
      obtain ⟨vc, rfl, gc⟩ := at_fcells au
      obtain ⟨X, z, rfl, _, _, hrd⟩ := at_nums gc
      obtain ⟨a0, a1, a2, a3, a4, a5, a6⟩ := seven cu
      have HRD := Lib.hid hrd
      clear cu au lu gc hrd HFQ
      go_wp2_with fail
      have HWN := Lib.hid ((Below.refl _ wr).alloc (Nat.le_refl _) (Obj.cells #[.string f.name, .int .i64 f.kind, .slice X f.chain.length z, .int .i64 f.scale, .int .i64 f.dims, .bool f.many, .bool f.stored] 54))
      have BF := Lib.hid (Blk.new wr 54 #[.string f.name, .int .i64 f.kind, .slice X f.chain.length z, .int .i64 f.scale, .int .i64 f.dims, .bool f.many, .bool f.stored])
      have hzn : (wr.alloc (Obj.cells #[.string f.name, .int .i64 f.kind, .slice X f.chain.length z, .int .i64 f.scale, .int .i64 f.dims, .bool f.many, .bool f.stored] 54)).heap.size = wr.heap.size + 1 := by simp
      clear a0 a1 a2 a3 a4 a5 a6 c0
      generalize wr.alloc (Obj.cells #[.string f.name, .int .i64 f.kind, .slice X f.chain.length z, .int .i64 f.scale, .int .i64 f.dims, .bool f.many, .bool f.stored] 54) = W1 at *
      refine (lentInt_any X z f.chain W1 (((HRD.out.below HWR.out).below (HWN.out.mono HWR.out.size)).more (by have := HWR.out.size; omega)) HF.out.chain.1).mono ?_
      rintro e w3 ⟨vl, rfl, al, b3⟩
      obtain ⟨Y, z2, rfl, _, _⟩ := at_slice al
      have hz3 := b3.size
      have BF3 := Lib.hid (BF.out.below b3 BF.out.lt)
      have HB3 := Lib.hid (HWN.out.trans (b3.mono (by omega)) : Below wr.heap.size wr w3)
      have AL3 := Lib.hid al
      have c2 : w3.cell? ⟨wr.heap.size, 2, none⟩ = some (.slice X f.chain.length z) := BF3.out.cell 2
      have f2 : w3.frozen? ⟨wr.heap.size, 2, none⟩ = false := BF3.out.frozen 2
      clear al b3
      go_upto_region 7 with fail
      have BF4 : Hid (Blk (w3.setCell ⟨wr.heap.size, 2, none⟩ (.slice Y f.chain.length z2)) wr.heap.size 54 #[.string f.name, .int .i64 f.kind, .slice Y f.chain.length z2, .int .i64 f.scale, .int .i64 f.dims, .bool f.many, .bool f.stored]) := Lib.hid (BF3.out.set_ 2 _)
      have HB4 : Hid (Below wr.heap.size wr (w3.setCell ⟨wr.heap.size, 2, none⟩ (.slice Y f.chain.length z2))) := Lib.hid (HB3.out.setCell (Nat.le_refl _) _)
      have hs4 : (w3.setCell ⟨wr.heap.size, 2, none⟩ (.slice Y f.chain.length z2)).heap.size = w3.heap.size := by simp [World.setCell]
      have AL4 : Hid (T.At lent (w3.setCell ⟨wr.heap.size, 2, none⟩ (.slice Y f.chain.length z2)) (fun g => wr.heap.size ≤ g ∧ g < w3.heap.size) (numsT .i64 f.chain) (.slice Y f.chain.length z2)) :=
        Lib.hid (At.keep (fun p hp => World.cell?_setCell_other _ _ _ _ (by intro e; subst e; have := hp.1; simp at this; omega)) (fun g h => ⟨by omega, h.2⟩) AL3.out)
      clear c2 f2 BF3 HB3 AL3 BF
      generalize w3.setCell ⟨wr.heap.size, 2, none⟩ (.slice Y f.chain.length z2) = W4 at *
      have b0 := BF4.out.cell 0
      have b1 := BF4.out.cell 1
      have b2 := BF4.out.cell 2
      have b3 := BF4.out.cell 3
      have b4 := BF4.out.cell 4
      have b5 := BF4.out.cell 5
      have b6 := BF4.out.cell 6
      obtain ⟨xs, hx, ha, hB⟩ := HK.out
      have hown := own_below hx HB4.out
      have HX := Lib.hid hx; have HA := Lib.hid ha
      have HFK := Lib.hid hfk
      have HS4 := Lib.hid hs4
      obtain ⟨i0, hi1, hi2, hi3, hi4⟩ := info_parts infoF
      clear hx ha hB hfk hs4
      go_wp2_with (at_builtin; refine wpList_append_any _ rfl (.tmp 22) (.tmp 24) 22 rfl W.heap.size 54 i0 _ 7 72 Tryz.underlying22 hi1 hi2 hi3 hi4 rfl (by decide) _ k xs rfl (hown.alloc _) (W4.heap.size + 1) (some ⟨W4.heap.size, 0, none⟩) 1 1 [.string f.name, .int .i64 f.kind, .slice Y f.chain.length z2, .int .i64 f.scale, .int .i64 f.dims, .bool f.many, .bool f.stored] rfl ?d1 ?d2 ?d3 ?d4 ?d5 ?_)
      all_goals have hs4 := HS4.out
      case d1 => exact ⟨rfl, fun _ => ⟨_, rfl, Nat.lt_succ_self _, fun j u hu => cells_new W4 _ _ j u hu⟩⟩
      case d2 => intro u hu; simp only [List.mem_cons, List.not_mem_nil, or_false] at hu; rcases hu with rfl | rfl | rfl | rfl | rfl | rfl | rfl <;> rfl
      case d3 => unfold maxLen; omega
      case d4 => omega
      case d5 => simp; omega
      intro v' w5 ho hg hv
      have HST : Hid (LentRow lent 54 7 fcells W w5 v' l (k + 1)) := Lib.hid (by
        rw [← hzW] at ho
        refine lentRow_step (us := [.string f.name, .int .i64 f.kind, .slice Y f.chain.length z2, .int .i64 f.scale, .int .i64 f.dims, .bool f.many, .bool f.stored]) (w3 := W4.alloc (.cells #[.string f.name, .int .i64 f.kind, .slice Y f.chain.length z2, .int .i64 f.scale, .int .i64 f.dims, .bool f.many, .bool f.stored] 54)) hlt HX.out HA.out HKB.out ?_ (HB4.out.alloc HB4.out.size _) ho hg (by simpa using hv)
        rw [HFK.out]
        refine fcells_mk (At.keep (fun p hp => World.cell?_alloc_lt _ _ _ (by omega)) (fun g h => ⟨h.1, by simp; omega⟩) AL4.out))
      clear ho hg hv hown hi1 hi2 hi3 hi4 b0 b1 b2 b3 b4 b5 b6
      go_wp2_with fail
      go_roundw
      case rel => exact ⟨k + 1, by omega, by go_num, HST⟩
      case measure => simp [intOf]; omega
    · obtain rfl : k = l.length := by omega
      obtain ⟨xs, hx, ha, hB⟩ := HK.out
      have HX := Lib.hid hx; have HA := Lib.hid ha
      obtain ⟨i0, hi1, hi2, hi3, hi4⟩ := info_parts infoF
      have HZ := Lib.hid hzW; have HZR := Lib.hid hzr
      clear ha hB hzW
      go_wp2_with (at_builtin; refine wpList_append_own _ rfl (.tmp 26) (.tmp 28) 22 rfl W.heap.size 54 i0 _ 7 72 Tryz.underlying22 hi1 hi2 hi3 hi4 rfl (by decide) _ l.length xs rfl (hx.alloc _) ⟨wr.heap.size, 0, none⟩ 1 1 markF rfl rfl ?d6 ?d7 ?d8 ?d9 ?d10 ?_)
      case d6 => intro j u hu; exact cells_new wr markF _ j u hu
      case d7 => intro u hu; simp only [markF, List.mem_cons, List.not_mem_nil, or_false] at hu; rcases hu with rfl | rfl | rfl | rfl | rfl | rfl | rfl <;> rfl
      case d8 => unfold maxLen; omega
      case d9 => omega
      case d10 => simp; omega
      intro v' w4 ho hg _
      rcases ho.2 with ⟨_, h0⟩ | ⟨g, cap', cur, rfl, hB', hgg, hn, hm', hcs, ht⟩
      · omega
      have HE := Lib.hid (lentRow_end fcells_len lent_seven HX.out HA.out HKB.out (HKB.out.trans (Below.refl _ _) |> fun _ => (Below.refl _ wr).alloc (Nat.le_refl _) _) ho hn hm' hg)
      have hmm := hm'
      unfold maxLen at hmm
      have hzz := HZ.out
      have hne : ∀ b, b < W.heap.size → some b ≠ u3.ownBlock := fun b hb e => by have := (HX.out.lt b e.symm).1; omega
      have BX := Lib.hid ((BW.out.alloc _).grown hg (hne _ (by omega)))
      have BY := Lib.hid (((BB.out.below HKB.out (by omega)).alloc _).grown hg (hne _ (by omega)))
      have x0 : w4.cell? ⟨w.heap.size, 0, none⟩ = some (.slice A l.length cap) := BX.out.cell 0
      have y0 : w4.cell? ⟨w.heap.size + 1, 0, none⟩ = some (.slice none 0 0) := BY.out.cell 0
      have yf : w4.frozen? ⟨w.heap.size + 1, 0, none⟩ = false := BY.out.frozen 0
      clear hne
      clear ho hg hgg hcs ht hx hi1 hi2 hi3 hi4 hB' hm'
      go_wp2_with fail
      have y1 : (w4.setCell ⟨w.heap.size + 1, 0, none⟩ (.slice (some ⟨g, 0, none⟩) l.length cap')).cell? ⟨w.heap.size + 1, 0, none⟩ = some (.slice (some ⟨g, 0, none⟩) l.length cap') := (BY.out.set_ 0 (.slice (some ⟨g, 0, none⟩) l.length cap')).cell 0
      refine bodyPost_ret (v := .agg #[.slice (some ⟨g, 0, none⟩) l.length cap']) (by simp [results, Tryz.results9, go_sem, y1]) rfl ?_
      refine ⟨_, rfl, At.keep (fun p hp => World.cell?_setCell_other _ _ _ _ (by intro e; subst e; have := hp.1; simp at this; omega)) (fun r hr => ⟨by omega, by have := hr.2; simpa [World.setCell] using this⟩) HE.out.1, (HB.out.trans (HE.out.2.mono (by omega))).setCell (by simp) _⟩
end Go.Proofs.YtfckomjbgopmaaaGreatDoor.Sch
end
section
set_option linter.unusedVariables false
namespace Go.Proofs.YtfckomjbgopmaaaGreatDoor.Sch
open Go.RowKit Words Tree SchP Kit Owned

set_option maxRecDepth 100000 in
set_option maxHeartbeats 4000000 in
theorem lentEntries_any (u : Value) (l : List ET) (w : World) (hu : T.At bare w (fun g => g < w.heap.size) (entriesT l) u) (hl : l.length * 56 ≤ 140737488351232) (hf : ∀ f ∈ l, EOk f) :
    Calls Tryz.prog 42 #[u] w (LentT (entriesT l) w) := by
  obtain ⟨A, cap, rfl, hc, hm, hel⟩ := at_row ecells_len hu
  have EL := Lib.hid hel
  clear hel hu
  go_enter Tryz.func42, Tryz.ntmps42
  go_wp2_with fail
  go_loopw [3, 4] (fun v i wr => ∃ k : Nat, k ≤ l.length ∧ i = .int .i64 k ∧ Hid (LentRow lent 68 3 ecells w wr v l k)) (fun _ i _ => l.length - (intOf i).toNat)
  case atStart => exact ⟨0, by omega, rfl, Lib.hid (lentRow_zero _ w l)⟩
  case round =>
    obtain ⟨k, hkk, rfl, HK⟩ := hrel
    have HKB : Hid (Below w.heap.size w wr) := Lib.hid (by obtain ⟨_, _, _, h⟩ := HK.out; exact h)
    have hzr := HKB.out.size
    by_cases hlt : k < l.length
    · obtain ⟨ad, us, rfl, hba, au, lu, cu⟩ := EL.out k hlt
      replace cu := cu.keep (w' := wr) (fun p hp => HKB.out.cell (by rw [hp, block_of_add]; exact hba))
      have hab : (ad.add (k * 3)).block < wr.heap.size := by rw [block_of_add]; omega
      have HF := Lib.hid (hf l[k] (List.getElem_mem hlt))
      have HFQ : Hid (∃ f, l[k] = f) := Lib.hid ⟨_, rfl⟩
      obtain ⟨f, hfk⟩ := HFQ.out
      rw [hfk] at au HF
      obtain ⟨vc, rfl, gc⟩ := at_ecells au
      obtain ⟨X, z, rfl, _, _, hrd⟩ := at_nums gc
      have a0 := cu.zero
      have a1 := cu.at_ 1 _ rfl (by omega)
      have a2 := cu.at_ 2 _ rfl (by omega)
      have HRD := Lib.hid hrd
      clear cu au lu gc hrd HFQ
      go_wp2_with fail
      have HWN := Lib.hid ((Below.refl _ wr).alloc (Nat.le_refl _) (Obj.cells #[.string f.field, .string f.text, .slice X f.nums.length z] 68))
      have BF := Lib.hid (Blk.new wr 68 #[.string f.field, .string f.text, .slice X f.nums.length z])
      have hzn : (wr.alloc (Obj.cells #[.string f.field, .string f.text, .slice X f.nums.length z] 68)).heap.size = wr.heap.size + 1 := by simp
      clear a0 a1 a2
      generalize wr.alloc (Obj.cells #[.string f.field, .string f.text, .slice X f.nums.length z] 68) = W1 at *
      refine (lent64_any X z f.nums W1 (((HRD.out.below HKB.out).below (HWN.out.mono HKB.out.size)).more (by have := HKB.out.size; omega)) HF.out.nums.1).mono ?_
      rintro e w3 ⟨vl, rfl, al, b3⟩
      obtain ⟨Y, z2, rfl, _, _⟩ := at_slice al
      have hz3 := b3.size
      have BF3 := Lib.hid (BF.out.below b3 BF.out.lt)
      have HB3 := Lib.hid (HWN.out.trans (b3.mono (by omega)) : Below wr.heap.size wr w3)
      have AL3 := Lib.hid al
      have c2 : w3.cell? ⟨wr.heap.size, 2, none⟩ = some (.slice X f.nums.length z) := BF3.out.cell 2
      have f2 : w3.frozen? ⟨wr.heap.size, 2, none⟩ = false := BF3.out.frozen 2
      clear al b3
      go_upto_region 7 with fail
      have BF4 : Hid (Blk (w3.setCell ⟨wr.heap.size, 2, none⟩ (.slice Y f.nums.length z2)) wr.heap.size 68 #[.string f.field, .string f.text, .slice Y f.nums.length z2]) := Lib.hid (BF3.out.set_ 2 _)
      have HB4 : Hid (Below wr.heap.size wr (w3.setCell ⟨wr.heap.size, 2, none⟩ (.slice Y f.nums.length z2))) := Lib.hid (HB3.out.setCell (Nat.le_refl _) _)
      have hs4 : (w3.setCell ⟨wr.heap.size, 2, none⟩ (.slice Y f.nums.length z2)).heap.size = w3.heap.size := by simp [World.setCell]
      have AL4 : Hid (T.At lent (w3.setCell ⟨wr.heap.size, 2, none⟩ (.slice Y f.nums.length z2)) (fun g => wr.heap.size ≤ g ∧ g < w3.heap.size) (numsT .i64 f.nums) (.slice Y f.nums.length z2)) :=
        Lib.hid (At.keep (fun p hp => World.cell?_setCell_other _ _ _ _ (by intro e; subst e; have := hp.1; simp at this; omega)) (fun g h => ⟨by omega, h.2⟩) AL3.out)
      clear c2 f2 BF3 HB3 AL3 BF
      generalize w3.setCell ⟨wr.heap.size, 2, none⟩ (.slice Y f.nums.length z2) = W4 at *
      have b0 := BF4.out.cell 0
      have b1 := BF4.out.cell 1
      have b2 := BF4.out.cell 2
      obtain ⟨xs, hx, ha, hB⟩ := HK.out
      have hown := own_below hx HB4.out
      have HX := Lib.hid hx; have HA := Lib.hid ha
      have HFK := Lib.hid hfk
      have HS4 := Lib.hid hs4
      obtain ⟨i0, hi1, hi2, hi3, hi4⟩ := info_parts infoE
      clear hx ha hB hfk hs4
      go_wp2_with (at_builtin; refine wpList_append_any _ rfl (.tmp 20) (.tmp 22) 28 rfl w.heap.size 68 i0 _ 3 56 Tryz.underlying28 hi1 hi2 hi3 hi4 rfl (by decide) _ k xs rfl (hown.alloc _) (W4.heap.size + 1) (some ⟨W4.heap.size, 0, none⟩) 1 1 [.string f.field, .string f.text, .slice Y f.nums.length z2] rfl ?d1 ?d2 ?d3 ?d4 ?d5 ?_)
      all_goals have hs4 := HS4.out
      case d1 => exact ⟨rfl, fun _ => ⟨_, rfl, Nat.lt_succ_self _, fun j u hu => cells_new W4 _ _ j u hu⟩⟩
      case d2 => intro u hu; simp only [List.mem_cons, List.not_mem_nil, or_false] at hu; rcases hu with rfl | rfl | rfl <;> rfl
      case d3 => unfold maxLen; omega
      case d4 => omega
      case d5 => simp; omega
      intro v' w5 ho hg hv
      have HST : Hid (LentRow lent 68 3 ecells w w5 v' l (k + 1)) := Lib.hid (by
        refine lentRow_step (us := [.string f.field, .string f.text, .slice Y f.nums.length z2]) (w3 := W4.alloc (.cells #[.string f.field, .string f.text, .slice Y f.nums.length z2] 68)) hlt HX.out HA.out HKB.out ?_ (HB4.out.alloc HB4.out.size _) ho hg (by simpa using hv)
        rw [HFK.out]
        refine ecells_mk (At.keep (fun p hp => World.cell?_alloc_lt _ _ _ (by omega)) (fun g h => ⟨h.1, by simp; omega⟩) AL4.out))
      clear ho hg hv hown hi1 hi2 hi3 hi4 b0 b1 b2
      go_wp2_with fail
      go_roundw
      case rel => exact ⟨k + 1, by omega, by go_num, HST⟩
      case measure => simp [intOf]; omega
    · obtain rfl : k = l.length := by omega
      obtain ⟨xs, hx, ha, hB⟩ := HK.out
      have HX := Lib.hid hx; have HA := Lib.hid ha
      obtain ⟨i0, hi1, hi2, hi3, hi4⟩ := info_parts infoE
      clear ha hB
      go_wp2_with (at_builtin; refine wpList_append_own _ rfl (.tmp 24) (.tmp 26) 28 rfl w.heap.size 68 i0 _ 3 56 Tryz.underlying28 hi1 hi2 hi3 hi4 rfl (by decide) _ l.length xs rfl (hx.alloc _) ⟨wr.heap.size, 0, none⟩ 1 1 markE rfl rfl ?d6 ?d7 ?d8 ?d9 ?d10 ?_)
      case d6 => intro j u hu; exact cells_new wr markE _ j u hu
      case d7 => intro u hu; simp only [markE, List.mem_cons, List.not_mem_nil, or_false] at hu; rcases hu with rfl | rfl | rfl <;> rfl
      case d8 => unfold maxLen; omega
      case d9 => omega
      case d10 => simp; omega
      intro v' w4 ho hg _
      rcases ho.2 with ⟨_, h0⟩ | ⟨g, cap', cur, rfl, hB', hgg, hn, hm', hcs, ht⟩
      · omega
      have HE := Lib.hid (lentRow_end ecells_len lent_three HX.out HA.out HKB.out ((Below.refl _ wr).alloc (Nat.le_refl _) _) ho hn hm' hg)
      have hmm := hm'
      unfold maxLen at hmm
      clear ho hg hgg hcs ht hx hi1 hi2 hi3 hi4 hB' hm'
      go_wp2_with fail
      go_ret
      exact ⟨_, rfl, HE.out.1, HE.out.2⟩
set_option maxRecDepth 100000 in
theorem lentDoc_any (u : Value) (l : List ET) (w : World) (hu : T.At bare w (fun g => g < w.heap.size) (entriesT l) u) (hl : l.length * 56 ≤ 140737488351232) (hf : ∀ f ∈ l, EOk f) :
    Calls Tryz.prog 19 #[.agg #[u]] w (fun e w' => ∃ v, e = .returned (.agg #[v]) ∧ T.At lent w' (fun g => w.heap.size ≤ g ∧ g < w'.heap.size) (entriesT l) v ∧ Below w.heap.size w w') := by
  have HC := Lib.hid (fun (W : World) (hW : Below w.heap.size w W) => lentEntries_any u l W (At.below hu hW (fun g hg => Nat.lt_of_lt_of_le hg hW.size)) hl hf)
  obtain ⟨A, cap, rfl, _, _⟩ := at_slice hu
  clear hu
  go_enter Tryz.func19, Tryz.ntmps19
  go_wp2_with fail
  refine (HC.out _ (below2 _ _)).mono ?_
  rintro e w1 ⟨v, rfl, hv, hb⟩
  have BY := Lib.hid ((blk_b w #[.slice A l.length cap] #[.slice none 0 0] 30 30).below hb (by simp))
  have HB := Lib.hid ((below2 _ _).trans (hb.mono (by simp; omega)) : Below w.heap.size w w1)
  have HV := Lib.hid hv
  have hz := hb.size
  simp only [World.size_alloc] at hz
  have y0 : w1.cell? ⟨w.heap.size + 1, 0, none⟩ = some (.slice none 0 0) := BY.out.cell 0
  have yf : w1.frozen? ⟨w.heap.size + 1, 0, none⟩ = false := BY.out.frozen 0
  obtain ⟨Y, z, rfl, _, _⟩ := at_slice hv
  clear hv hb
  go_wp2_with fail
  have y1 : (w1.setCell ⟨w.heap.size + 1, 0, none⟩ (.slice Y l.length z)).cell? ⟨w.heap.size + 1, 0, none⟩ = some (.slice Y l.length z) := (BY.out.set_ 0 (.slice Y l.length z)).cell 0
  refine bodyPost_ret (v := .agg #[.slice Y l.length z]) (by simp [results, Tryz.results19, go_sem, y1]) rfl ?_
  refine ⟨_, rfl, At.keep (fun p hp => World.cell?_setCell_other _ _ _ _ (by intro e; subst e; have := hp.1; simp at this; omega)) (fun r hr => ⟨by have := hr.1; simp at this; omega, by have := hr.2; simpa [World.setCell] using this⟩) HV.out, HB.out.setCell (by simp) _⟩
end Go.Proofs.YtfckomjbgopmaaaGreatDoor.Sch
end
section
set_option linter.unusedVariables false
namespace Go.Proofs.YtfckomjbgopmaaaGreatDoor.Sch
open Go.RowKit Words Tree SchP Kit Owned

theorem str_cases (a b : ByteArray) : (a = b ∧ (a.toList == b.toList) = true) ∨ (a ≠ b ∧ (a.toList == b.toList) = false) := by
  by_cases h : a = b
  · exact .inl ⟨h, by subst h; simp⟩
  · refine .inr ⟨h, ?_⟩
    have : ¬ a.toList = b.toList := fun e => by
      rw [ByteArray.toList_eq, ByteArray.toList_eq] at e
      exact h (ByteArray.ext (Array.toList_inj.1 e))
    rw [beq_eq_false_iff_ne]; exact this
theorem findF_drop {l : List FT} {s : ByteArray} {k : Nat} (h : k < l.length) : findF (l.drop k) s = if l[k].name = s then some 0 else (findF (l.drop (k + 1)) s).map (· + 1) := by
  rw [List.drop_eq_getElem_cons h, findF]
def zOf : Option Nat → Int
  | some i => i
  | none => -1
theorem findZ_eq (l : List FT) (s : ByteArray) : findZ l s = zOf (findF l s) := by
  unfold findZ zOf
  cases findF l s <;> rfl
def IntB (n : Int) (w : World) (e : Ending) (w' : World) : Prop := e = .returned (.int .i64 n) ∧ Below w.heap.size w w'

end Go.Proofs.YtfckomjbgopmaaaGreatDoor.Sch
end
