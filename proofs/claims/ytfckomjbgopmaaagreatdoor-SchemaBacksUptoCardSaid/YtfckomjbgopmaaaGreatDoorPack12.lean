/- Contract: a schema that was lent is as it was. Contracts: rows of cells compared, lent, kept. Written by gen_cells.py out of the texts on entries. Contract: lent cells are as they were. Contracts: a filter's number: the program's find, the document's Filter. -/
import Derived.Test.YtfckomjbgopmaaaGreatDoorPack11
import Derived.Test.YtfckomjbgopmaaaGreatDoorProg
import Derived.Test.YtfckomjbgopmaaaGreatDoorAnaRunP
import Derived.Test.YtfckomjbgopmaaaGreatDoorPack2
import Derived.Test.YtfckomjbgopmaaaGreatDoorWords
import Derived.BigGuardPart
import Derived.Outline
section
set_option linter.unusedVariables false
namespace Go.Proofs.YtfckomjbgopmaaaGreatDoor.Sch
open Go.RowKit Words Tree SchP Kit Owned

set_option maxRecDepth 100000 in
set_option maxHeartbeats 4000000 in
theorem keptSchema_any (v u : Value) (l : List FT) (w : World) (hv : T.At lent w (fun g => g < w.heap.size) (fieldsT l) v) (hu : T.At bare w (fun g => g < w.heap.size) (fieldsT l) u)
    (hx : l.length * 72 ≤ 140737488351232) (ox : ∀ f ∈ l, FOk f) :
    Calls Tryz.prog 17 #[.agg #[v], .agg #[u]] w (AnsB true w) := by
  obtain ⟨ad, c, rfl, hcap, hmA, hadb, hmark, eA⟩ := at_row_mark fcells_len lent_seven hv
  obtain ⟨B, d, rfl, _, hmB, eB⟩ := at_row fcells_len hu
  have HC := Lib.hid (fun (W : World) (hW : Below w.heap.size w W) => kitSchema_same _ _ l W (At.below (At.bare hv) hW (fun g hg => Nat.lt_of_lt_of_le hg hW.size)) (At.below hu hW (fun g hg => Nat.lt_of_lt_of_le hg hW.size)) hx ox)
  have EA := Lib.hid eA; have EB := Lib.hid eB; have OX := Lib.hid ox
  have MK : Hid (w.cell? (ad.add (l.length * 7)) = some (.string ⟨#[109, 97, 114, 107]⟩)) := Lib.hid (by have := hmark.zero; exact this)
  have hmA' := hmA
  unfold maxLen at hmA'
  clear eA eB hv hu ox hmark
  go_enter Tryz.func17, Tryz.ntmps17
  have BA := Lib.hid (blk_a w #[.slice (some ad) l.length c] #[.slice B l.length d] 24 24)
  have BB := Lib.hid (blk_b w #[.slice (some ad) l.length c] #[.slice B l.length d] 24 24)
  go_wp2_with fail
  refine (HC.out _ (below2 _ _)).mono ?_
  rintro e W ⟨rfl, b0⟩
  have HB := Lib.hid ((below2 _ _).trans (b0.mono (by simp; omega)) : Below w.heap.size w W)
  have BA1 := Lib.hid (BA.out.below b0 (by simp; omega))
  have BB1 := Lib.hid (BB.out.below b0 (by simp))
  have hzW : w.heap.size + 2 ≤ W.heap.size := BB1.out.lt
  clear b0 BA BB
  go_wp2_with fail
  go_loopw [5] (fun i wr => ∃ (k : Nat), k ≤ l.length ∧ i = .int .i64 k ∧ Hid (Below W.heap.size W wr)) (fun i _ => l.length - (intOf i).toNat)
  case atStart => exact ⟨0, by omega, rfl, Lib.hid (Below.refl _ _)⟩
  case round =>
    obtain ⟨k, hk, rfl, HK⟩ := hrel
    have BA2 := Lib.hid (BA1.out.below HK.out BA1.out.lt)
    have BB2 := Lib.hid (BB1.out.below HK.out BB1.out.lt)
    have hcA : wr.cell? ⟨w.heap.size, 0, none⟩ = some (.slice (some ad) l.length c) := BA2.out.cell 0
    have hcB : wr.cell? ⟨w.heap.size + 1, 0, none⟩ = some (.slice B l.length d) := BB2.out.cell 0
    have hzr := HK.out.size
    have HW : Hid (Below w.heap.size w wr) := Lib.hid (HB.out.trans (HK.out.mono HB.out.size))
    by_cases hlt : k < l.length
    · obtain ⟨us, au, lu, cu⟩ := EA.out k hlt
      obtain ⟨bd, us2, rfl, hbb, au2, lu2, cu2⟩ := EB.out k hlt
      replace cu := cu.keep (w' := wr) (fun p hp => HW.out.cell (by rw [hp, block_of_add]; exact hadb))
      replace cu2 := cu2.keep (w' := wr) (fun p hp => HW.out.cell (by rw [hp, block_of_add]; exact hbb))
      have hok := OX.out _ (List.getElem_mem hlt)
      generalize hx1 : l[k] = f at *
      clear hx1
      obtain ⟨vl, rfl, al⟩ := at_fcells au
      obtain ⟨vj, rfl, aj⟩ := at_fcells au2
      obtain ⟨X, z, rfl, _, _⟩ := at_slice al
      obtain ⟨Y, z2, rfl, _, _, hrj⟩ := at_nums aj
      obtain ⟨-, -, a2, -, -, -, -⟩ := seven cu
      obtain ⟨-, -, b2, -, -, -, -⟩ := seven cu2
      have HC1 : Hid (∀ (W : World), Below w.heap.size w W → Calls Tryz.prog 40 #[.slice X f.chain.length z, .slice Y f.chain.length z2] W (AnsB true W)) := Lib.hid (fun W hW =>
        keptInt_any _ Y z2 _ _ W (At.below al hW (fun g hg => Nat.lt_of_lt_of_le hg hW.size)) ((hrj.below hW).more hW.size) hok.chain.1 hok.chain.1 true (by simp))
      clear cu cu2 au au2 lu lu2 al aj hrj hok
      obtain ⟨f0, f1, f2, f3, f4, f5, f6⟩ := f
      go_upto_region 6 with fail
      have hBW : Below w.heap.size w ({ wr with drawn := wr.drawn + 1 } : World) := HW.out.trans ⟨rfl, rfl, rfl, Nat.le_refl _, fun _ _ => rfl⟩
      have hBV : Below W.heap.size W ({ wr with drawn := wr.drawn + 1 } : World) := HK.out.trans ⟨rfl, rfl, rfl, Nat.le_refl _, fun _ _ => rfl⟩
      change ({ wr with drawn := wr.drawn + 1 } : World).cell? _ = _ at hcA hcB a2 b2
      refine wp_region_still_tail 12 (by kernel_rfl) (by kernel_rfl) ?_
      simp only [List.take_succ_cons, List.take_zero, List.drop_succ_cons, List.drop_zero]
      clear HW HK hzr
      generalize ({ wr with drawn := wr.drawn + 1 } : World) = V at *
      repeat still_step
      refine wpStill_nil ?_
      change wpList _ _ _ _ _ _
      have HBW := Lib.hid hBW; have HBV := Lib.hid hBV; clear hBW hBV
      clear a2 b2 hcA hcB
      go_wp2_with fail
      refine (HC1.out _ HBW.out).mono ?_
      rintro e W2 ⟨rfl, bW⟩
      have BV := Lib.hid (HBV.out.trans (bW.mono HBV.out.size))
      clear bW
      go_wp2_with fail
      go_roundw
      case rel => exact ⟨k + 1, by omega, by go_num, BV⟩
      case measure => simp [intOf]; omega
    · obtain rfl : k = l.length := by omega
      have hmk : wr.cell? (ad.add (l.length * 7)) = some (.string ⟨#[109, 97, 114, 107]⟩) := (HW.out.cell (by rw [block_of_add]; exact hadb)).trans MK.out
      go_wp2_with fail
      go_ret
      exact ⟨rfl, HW.out⟩
end Go.Proofs.YtfckomjbgopmaaaGreatDoor.Sch
end
section
set_option linter.unusedVariables false
namespace Go.Proofs.YtfckomjbgopmaaaGreatDoor.Sch
open Go.RowKit Words Tree SchP Kit Owned

/-- The marks behind rows of cells and of their numbers. -/
def markC : List Value := [.int .i64 (-71), .string ⟨#[]⟩, .slice none 0 0]
def lentC : Nat → List (List Value) := fun s => if s = 1 then [[.int .i64 (-7171)]] else if s = 3 then [markC] else []
theorem lentC_three : lentC 3 = [markC] := rfl
theorem infoC : (Tryz.prog.info? 57).map (fun i => (i.zero, i.size, i.bytes)) = some (some (.agg #[.int .i64 0, .string ⟨#[]⟩, .slice none 0 0]), 3, 48) := by kernel_rfl
/-- Rows of numbers hang on the mark of rows of one cell alone. -/
theorem nums_sent {a b : Nat → List (List Value)} (h : a 1 = b 1) {w : World} {S : Nat → Prop} {k : IntKind} {l : List Int} {v : Value} (hv : T.At a w S (numsT k l) v) : T.At b w S (numsT k l) v := by
  simp only [numsT, T.At] at hv ⊢
  obtain ⟨A, cap, vs, h1, h2, h3, h4, h5, h6⟩ := hv
  obtain rfl := AtL.lits h6
  rw [h] at h2 h5
  exact ⟨A, cap, _, h1, h2, h3, h4, h5, AtL.of_lits⟩
def LentC (t : T) (w : World) (e : Ending) (w' : World) : Prop := ∃ v, e = .returned v ∧ T.At lentC w' (fun g => w.heap.size ≤ g ∧ g < w'.heap.size) t v ∧ Below w.heap.size w w'

set_option maxRecDepth 100000 in
set_option maxHeartbeats 4000000 in
theorem lentCells_any (u : Value) (l : List CT) (w : World) (hu : T.At bare w (fun g => g < w.heap.size) (cellsT l) u) (hl : l.length * 48 ≤ 140737488351232) (hf : ∀ f ∈ l, COk f) :
    Calls Tryz.prog 10 #[u] w (LentC (cellsT l) w) := by
  obtain ⟨A, cap, rfl, hc, hm, hel⟩ := at_row ccells_len hu
  have EL := Lib.hid hel
  clear hel hu
  go_enter Tryz.func10, Tryz.ntmps10
  go_wp2_with fail
  go_loopw [3, 4] (fun v i wr => ∃ k : Nat, k ≤ l.length ∧ i = .int .i64 k ∧ Hid (LentRow lentC 57 3 ccells w wr v l k)) (fun _ i _ => l.length - (intOf i).toNat)
  case atStart => exact ⟨0, by omega, rfl, Lib.hid (lentRow_zero _ w l)⟩
  case round =>
    obtain ⟨k, hkk, rfl, HK⟩ := hrel
    have HKB : Hid (Below w.heap.size w wr) := Lib.hid (by obtain ⟨_, _, _, h⟩ := HK.out; exact h)
    have hzr := HKB.out.size
    by_cases hlt : k < l.length
    · obtain ⟨ad, us, rfl, hba, au, lu, cu⟩ := EL.out k hlt
      replace cu := cu.keep (w' := wr) (fun p hp => HKB.out.cell (by rw [hp, block_of_add]; exact hba))
      have hab : (ad.add (k * 3)).block < wr.heap.size := by rw [block_of_add]; omega
      have HF := Lib.hid (hf l[k] (List.getElem_mem hlt))
      have HFQ : Hid (∃ f, l[k] = f) := Lib.hid ⟨_, rfl⟩
      obtain ⟨f, hfk⟩ := HFQ.out
      rw [hfk] at au HF
      obtain ⟨vc, rfl, gc⟩ := at_ccells au
      obtain ⟨X, z, rfl, _, _, hrd⟩ := at_nums gc
      have a0 := cu.zero
      have a1 := cu.at_ 1 _ rfl (by omega)
      have a2 := cu.at_ 2 _ rfl (by omega)
      have HRD := Lib.hid hrd
      clear cu au lu gc hrd HFQ
      go_wp2_with fail
      have HWN := Lib.hid ((Below.refl _ wr).alloc (Nat.le_refl _) (Obj.cells #[.int .i64 f.field, .string f.text, .slice X f.nums.length z] 57))
      have BF := Lib.hid (Blk.new wr 57 #[.int .i64 f.field, .string f.text, .slice X f.nums.length z])
      have hzn : (wr.alloc (Obj.cells #[.int .i64 f.field, .string f.text, .slice X f.nums.length z] 57)).heap.size = wr.heap.size + 1 := by simp
      clear a0 a1 a2
      generalize wr.alloc (Obj.cells #[.int .i64 f.field, .string f.text, .slice X f.nums.length z] 57) = W1 at *
      refine (lent64_any X z f.nums W1 (((HRD.out.below HKB.out).below (HWN.out.mono HKB.out.size)).more (by have := HKB.out.size; omega)) HF.out.nums.1).mono ?_
      rintro e w3 ⟨vl, rfl, al, b3⟩
      replace al := nums_sent (a := lent) (b := lentC) rfl al
      obtain ⟨Y, z2, rfl, _, _⟩ := at_slice al
      have hz3 := b3.size
      have BF3 := Lib.hid (BF.out.below b3 BF.out.lt)
      have HB3 := Lib.hid (HWN.out.trans (b3.mono (by omega)) : Below wr.heap.size wr w3)
      have AL3 := Lib.hid al
      have c2 : w3.cell? ⟨wr.heap.size, 2, none⟩ = some (.slice X f.nums.length z) := BF3.out.cell 2
      have f2 : w3.frozen? ⟨wr.heap.size, 2, none⟩ = false := BF3.out.frozen 2
      clear al b3
      go_upto_region 7 with fail
      have BF4 : Hid (Blk (w3.setCell ⟨wr.heap.size, 2, none⟩ (.slice Y f.nums.length z2)) wr.heap.size 57 #[.int .i64 f.field, .string f.text, .slice Y f.nums.length z2]) := Lib.hid (BF3.out.set_ 2 _)
      have HB4 : Hid (Below wr.heap.size wr (w3.setCell ⟨wr.heap.size, 2, none⟩ (.slice Y f.nums.length z2))) := Lib.hid (HB3.out.setCell (Nat.le_refl _) _)
      have hs4 : (w3.setCell ⟨wr.heap.size, 2, none⟩ (.slice Y f.nums.length z2)).heap.size = w3.heap.size := by simp [World.setCell]
      have AL4 : Hid (T.At lentC (w3.setCell ⟨wr.heap.size, 2, none⟩ (.slice Y f.nums.length z2)) (fun g => wr.heap.size ≤ g ∧ g < w3.heap.size) (numsT .i64 f.nums) (.slice Y f.nums.length z2)) :=
        Lib.hid (At.keep (fun p hp => World.cell?_setCell_other _ _ _ _ (by intro e; subst e; have := hp.1; simp at this; omega)) (fun g h => ⟨by omega, h.2⟩) AL3.out)
      clear c2 f2 BF3 HB3 AL3 BF
      generalize w3.setCell ⟨wr.heap.size, 2, none⟩ (.slice Y f.nums.length z2) = W4 at *
      have b0 := BF4.out.cell 0
      have b1 := BF4.out.cell 1
      have b2 := BF4.out.cell 2
      obtain ⟨xs, hx, ha, hB⟩ := HK.out
      have hown := own_below hx HB4.out
      have HX := Lib.hid hx; have HA := Lib.hid ha
      have HFK := Lib.hid hfk
      have HS4 := Lib.hid hs4
      obtain ⟨i0, hi1, hi2, hi3, hi4⟩ := info_parts infoC
      clear hx ha hB hfk hs4
      go_wp2_with (at_builtin; refine wpList_append_any _ rfl (.tmp 23) (.tmp 25) 25 rfl w.heap.size 57 i0 _ 3 48 Tryz.underlying25 hi1 hi2 hi3 hi4 rfl (by decide) _ k xs rfl (hown.alloc _) (W4.heap.size + 1) (some ⟨W4.heap.size, 0, none⟩) 1 1 [.int .i64 f.field, .string f.text, .slice Y f.nums.length z2] rfl ?d1 ?d2 ?d3 ?d4 ?d5 ?_)
      all_goals have hs4 := HS4.out
      case d1 => exact ⟨rfl, fun _ => ⟨_, rfl, Nat.lt_succ_self _, fun j u hu => cells_new W4 _ _ j u hu⟩⟩
      case d2 => intro u hu; simp only [List.mem_cons, List.not_mem_nil, or_false] at hu; rcases hu with rfl | rfl | rfl <;> rfl
      case d3 => unfold maxLen; omega
      case d4 => omega
      case d5 => simp; omega
      intro v' w5 ho hg hv
      have HST : Hid (LentRow lentC 57 3 ccells w w5 v' l (k + 1)) := Lib.hid (by
        refine lentRow_step (us := [.int .i64 f.field, .string f.text, .slice Y f.nums.length z2]) (w3 := W4.alloc (.cells #[.int .i64 f.field, .string f.text, .slice Y f.nums.length z2] 57)) hlt HX.out HA.out HKB.out ?_ (HB4.out.alloc HB4.out.size _) ho hg (by simpa using hv)
        rw [HFK.out]
        refine ccells_mk (At.keep (fun p hp => World.cell?_alloc_lt _ _ _ (by omega)) (fun g h => ⟨h.1, by simp; omega⟩) AL4.out))
      clear ho hg hv hown hi1 hi2 hi3 hi4 b0 b1 b2
      go_wp2_with fail
      go_roundw
      case rel => exact ⟨k + 1, by omega, by go_num, HST⟩
      case measure => simp [intOf]; omega
    · obtain rfl : k = l.length := by omega
      obtain ⟨xs, hx, ha, hB⟩ := HK.out
      have HX := Lib.hid hx; have HA := Lib.hid ha
      obtain ⟨i0, hi1, hi2, hi3, hi4⟩ := info_parts infoC
      clear ha hB
      go_wp2_with (at_builtin; refine wpList_append_own _ rfl (.tmp 27) (.tmp 29) 25 rfl w.heap.size 57 i0 _ 3 48 Tryz.underlying25 hi1 hi2 hi3 hi4 rfl (by decide) _ l.length xs rfl (hx.alloc _) ⟨wr.heap.size, 0, none⟩ 1 1 markC rfl rfl ?d6 ?d7 ?d8 ?d9 ?d10 ?_)
      case d6 => intro j u hu; exact cells_new wr markC _ j u hu
      case d7 => intro u hu; simp only [markC, List.mem_cons, List.not_mem_nil, or_false] at hu; rcases hu with rfl | rfl | rfl <;> rfl
      case d8 => unfold maxLen; omega
      case d9 => omega
      case d10 => simp; omega
      intro v' w4 ho hg _
      rcases ho.2 with ⟨_, h0⟩ | ⟨g, cap', cur, rfl, hB', hgg, hn, hm', hcs, ht⟩
      · omega
      have HE := Lib.hid (lentRow_end ccells_len lentC_three HX.out HA.out HKB.out ((Below.refl _ wr).alloc (Nat.le_refl _) _) ho hn hm' hg)
      have hmm := hm'
      unfold maxLen at hmm
      clear ho hg hgg hcs ht hx hi1 hi2 hi3 hi4 hB' hm'
      go_wp2_with fail
      go_ret
      exact ⟨_, rfl, HE.out.1, HE.out.2⟩

end Go.Proofs.YtfckomjbgopmaaaGreatDoor.Sch
end
section
set_option linter.unusedVariables false
namespace Go.Proofs.YtfckomjbgopmaaaGreatDoor.Sch
open Go.RowKit Words Tree SchP Kit Owned

set_option maxRecDepth 100000 in
set_option maxHeartbeats 8000000 in
theorem keptCells_any (v u : Value) (xs : List CT) (w : World) (hv : T.At lentC w (fun g => g < w.heap.size) (cellsT xs) v) (hu : T.At bare w (fun g => g < w.heap.size) (cellsT xs) u)
    (hx : xs.length * 48 ≤ 140737488351232) (ox : ∀ e ∈ xs, COk e) :
    Calls Tryz.prog 18 #[v, u] w (AnsB true w) := by
  obtain ⟨ad, c, rfl, hcap, hmA, hadb, hmark, eA⟩ := at_row_mark ccells_len lentC_three hv
  obtain ⟨B, d, rfl, _, hmB, eB⟩ := at_row ccells_len hu
  have EA := Lib.hid eA; have EB := Lib.hid eB; have OX := Lib.hid ox
  have MK : w.cell? (ad.add (xs.length * 3)) = some (.int .i64 (-71)) := by have := hmark.zero; exact this
  have hmA' := hmA
  unfold maxLen at hmA'
  clear eA eB hv hu ox hmark
  go_enter Tryz.func18, Tryz.ntmps18
  go_wp2_with fail
  clear MK
  go_loopw [5] (fun i wr => ∃ (k : Nat), k ≤ xs.length ∧ i = .int .i64 k ∧ Hid (Below w.heap.size w wr)) (fun i _ => xs.length - (intOf i).toNat)
  case atStart => exact ⟨0, by omega, rfl, Lib.hid (Below.refl _ _)⟩
  case round =>
    obtain ⟨k, hk, rfl, HW⟩ := hrel
    by_cases hlt : k < xs.length
    · obtain ⟨us, au, lu, cu⟩ := EA.out k hlt
      obtain ⟨bd, us2, rfl, hbb, au2, lu2, cu2⟩ := EB.out k hlt
      replace cu := cu.keep (w' := wr) (fun p hp => HW.out.cell (by rw [hp, block_of_add]; exact hadb))
      replace cu2 := cu2.keep (w' := wr) (fun p hp => HW.out.cell (by rw [hp, block_of_add]; exact hbb))
      have hok := OX.out _ (List.getElem_mem hlt)
      generalize hx1 : xs[k] = x at *
      clear hx1
      obtain ⟨n, t, l⟩ := x
      obtain ⟨vl, rfl, al⟩ := at_ccells au
      obtain ⟨vj, rfl, aj⟩ := at_ccells au2
      obtain ⟨Y, z2, rfl, _, _, hrj⟩ := at_nums aj
      replace al := nums_sent (a := lentC) (b := lent) rfl al
      obtain ⟨X, z, rfl, _, _⟩ := at_slice al
      obtain ⟨a0, a1, a2⟩ := three cu
      obtain ⟨b0, b1, b2⟩ := three cu2
      have HC1 : Hid (∀ (W : World), Below w.heap.size w W → Calls Tryz.prog 41 #[.slice X l.length z, .slice Y l.length z2] W (AnsB true W)) := Lib.hid (fun W hW =>
        kept64_any _ Y z2 l l W (At.below al hW (fun g hg => Nat.lt_of_lt_of_le hg hW.size)) ((hrj.below hW).more hW.size) hok.nums.1 hok.nums.1 true (by simp))
      clear cu cu2 au au2 lu lu2 al aj hrj hok
      go_upto_region 6 with fail
      have hBW : Below w.heap.size w ({ wr with drawn := wr.drawn + 1 } : World) := HW.out.trans ⟨rfl, rfl, rfl, Nat.le_refl _, fun _ _ => rfl⟩
      change ({ wr with drawn := wr.drawn + 1 } : World).cell? _ = _ at a0 a1 a2 b0 b1 b2
      refine wp_region_still_tail 35 (by kernel_rfl) (by kernel_rfl) ?_
      simp only [List.take_succ_cons, List.take_zero, List.drop_succ_cons, List.drop_zero]
      clear HW
      generalize ({ wr with drawn := wr.drawn + 1 } : World) = W at *
      repeat still_step
      refine wpStill_nil ?_
      change wpList _ _ _ _ _ _
      have HBW := Lib.hid hBW; clear hBW
      clear a0 a1 a2 b0 b1 b2
      go_wp2_with fail
      refine (HC1.out _ HBW.out).mono ?_
      rintro e W2 ⟨rfl, bW⟩
      have BW := Lib.hid (HBW.out.trans (bW.mono HBW.out.size))
      clear bW
      go_wp2_with fail
      go_roundw
      case rel => exact ⟨k + 1, by omega, by go_num, BW⟩
      case measure => simp [intOf]; omega
    · obtain rfl : k = xs.length := by omega
      go_wp2_with fail
      go_ret
      exact ⟨rfl, HW.out⟩
end Go.Proofs.YtfckomjbgopmaaaGreatDoor.Sch
end
section
set_option linter.unusedVariables false
namespace Go.Proofs.YtfckomjbgopmaaaGreatDoor.Ana
open Go.RowKit Go.Lib AnaP Words Kit

def PureB (b : Bool) (w : World) (e : Ending) (w' : World) : Prop := e = .returned (.bool b) ∧ w = w'

set_option maxRecDepth 100000 in
theorem filter_any (n : Int) (w : World) : Calls Tryz.prog 85 #[.int .i64 n] w (PureB (filterB n) w) := by
  obtain ⟨b, hb⟩ : ∃ b, filterB n = b := ⟨_, rfl⟩
  rw [hb]
  have HR := Lib.hid hb; clear hb
  go_enter Tryz.func85, Tryz.ntmps85
  go_wp2
  all_goals go_ret
  all_goals (refine ⟨ret_bool ?_, rfl⟩; rw [← HR.out]; unfold filterB; simp_all; try omega)

set_option maxRecDepth 100000 in
theorem eql_nilF (w : World) : (binOp .eql 135 .nilFunc .nilFunc).run Tryz.prog w = .ok (.bool true) w := by rfl
set_option maxRecDepth 100000 in
theorem eql_fnF (F : Nat) (cap : Array Value) (w : World) : (binOp .eql 135 (.func (.func F) #[] cap) .nilFunc).run Tryz.prog w = .ok (.bool false) w := by rfl
theorem grams_any (n : Int) (w : World) : Calls Tryz.prog 112 #[.int .i64 n] w fun e w' => e = .returned (.func (.func 143) #[] #[.pointer (some ⟨w.heap.size, 0, none⟩)]) ∧ w' = w.alloc (.cells #[.int .i64 n] 3) := by
  have hmf : ∀ (fn : Fn) (first cap : Array Value) (w : World), (Instr.makeFunc fn first cap).run Tryz.prog w = .ok (.func fn first cap) w := fun _ _ _ _ => rfl
  go_enter Tryz.func112, Tryz.ntmps112
  go_wp2_with fail
  go_ret
  exact ⟨rfl, rfl⟩
theorem find_none (n : Int) (w : World) (h : filterB n = false) : Calls Tryz.prog 86 #[.int .i64 n] w fun e w' => e = .returned .nilFunc ∧ w = w' := by
  have h0 : ¬ (10 ≤ n ∧ n ≤ 15) := by unfold filterB at h; simpa using h
  have h1 : (n == 10) = false := by rw [beq_eq_false_iff_ne]; omega
  have h2 : (n == 11) = false := by rw [beq_eq_false_iff_ne]; omega
  have h3 : (n == 12) = false := by rw [beq_eq_false_iff_ne]; omega
  have h4 : (n == 13) = false := by rw [beq_eq_false_iff_ne]; omega
  have h5 : (n == 14) = false := by rw [beq_eq_false_iff_ne]; omega
  have h6 : (n == 15) = false := by rw [beq_eq_false_iff_ne]; omega
  clear h h0
  go_enter Tryz.func86, Tryz.ntmps86
  go_wp2_with fail
  go_ret
  exact ⟨rfl, rfl⟩

theorem find_10 (w : World) : Calls Tryz.prog 86 #[.int .i64 10] w fun e w' => e = .returned (.func (.func 110) #[] #[]) ∧ w = w' := by
  go_enter Tryz.func86, Tryz.ntmps86
  go_wp2_with fail
  go_ret
  exact ⟨rfl, rfl⟩
theorem find_11 (w : World) : Calls Tryz.prog 86 #[.int .i64 11] w fun e w' => e = .returned (.func (.func 111) #[] #[]) ∧ w = w' := by
  go_enter Tryz.func86, Tryz.ntmps86
  go_wp2_with fail
  go_ret
  exact ⟨rfl, rfl⟩
theorem find_12 (w : World) : Calls Tryz.prog 86 #[.int .i64 12] w fun e w' => e = .returned (.func (.func 143) #[] #[.pointer (some ⟨w.heap.size, 0, none⟩)]) ∧ w' = w.alloc (.cells #[.int .i64 2] 3) := by
  go_enter Tryz.func86, Tryz.ntmps86
  go_wp2_with fail
  refine (grams_any _ _).mono ?_
  rintro e w' ⟨rfl, rfl⟩
  go_wp2_with fail
  go_ret
  exact ⟨rfl, rfl⟩
theorem find_13 (w : World) : Calls Tryz.prog 86 #[.int .i64 13] w fun e w' => e = .returned (.func (.func 143) #[] #[.pointer (some ⟨w.heap.size, 0, none⟩)]) ∧ w' = w.alloc (.cells #[.int .i64 3] 3) := by
  go_enter Tryz.func86, Tryz.ntmps86
  go_wp2_with fail
  refine (grams_any _ _).mono ?_
  rintro e w' ⟨rfl, rfl⟩
  go_wp2_with fail
  go_ret
  exact ⟨rfl, rfl⟩
theorem find_14 (w : World) : Calls Tryz.prog 86 #[.int .i64 14] w fun e w' => e = .returned (.func (.func 113) #[] #[]) ∧ w = w' := by
  go_enter Tryz.func86, Tryz.ntmps86
  go_wp2_with fail
  go_ret
  exact ⟨rfl, rfl⟩
theorem find_15 (w : World) : Calls Tryz.prog 86 #[.int .i64 15] w fun e w' => e = .returned (.func (.func 114) #[] #[]) ∧ w = w' := by
  go_enter Tryz.func86, Tryz.ntmps86
  go_wp2_with fail
  go_ret
  exact ⟨rfl, rfl⟩

end Go.Proofs.YtfckomjbgopmaaaGreatDoor.Ana
end
