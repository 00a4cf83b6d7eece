/- Two structs of one cell, lent side by side: their loads and stores. Contract: a schema that was lent is as it was. -/
import Derived.Test.YtfckomjbgopmaaaGreatDoorPack7
import Derived.Test.YtfckomjbgopmaaaGreatDoorTwo
import Derived.Test.YtfckomjbgopmaaaGreatDoorSchKept
section
set_option linter.unusedVariables false
namespace Go.Proofs.YtfckomjbgopmaaaGreatDoor.SchTwo
open Go.RowKit Words Tree SchP Kit Owned Sch Two

/-- A struct of one cell: its load, its store. -/
theorem load_1s {s d : Nat} {p : String} {ρ : Operand → Value} {W : World} {after : Array Edge} {g : Nat} {v0 : Value} (hp : ρ (.tmp s) = .pointer (some ⟨g, 0, none⟩)) (hb : Blk W g 24 #[v0]) :
    (execOp ρ ⟨some d, .load 24 (.tmp s), 24, p, after, none⟩).run Tryz.prog W = .ok (.value (.agg #[v0])) W := by
  have q0 : W.cell? ⟨g, 0, none⟩ = some v0 := hb.cell 0
  go_simp
theorem load_1d {s d : Nat} {p : String} {ρ : Operand → Value} {W : World} {after : Array Edge} {g : Nat} {v0 : Value} (hp : ρ (.tmp s) = .pointer (some ⟨g, 0, none⟩)) (hb : Blk W g 30 #[v0]) :
    (execOp ρ ⟨some d, .load 30 (.tmp s), 30, p, after, none⟩).run Tryz.prog W = .ok (.value (.agg #[v0])) W := by
  have q0 : W.cell? ⟨g, 0, none⟩ = some v0 := hb.cell 0
  go_simp
theorem store_1s {s d : Nat} {p : String} {ρ : Operand → Value} {W : World} {after : Array Edge} {g : Nat} {us : List Value} {l : List FT} {S : Nat → Prop} {c0 : Value} {sent : Nat → List (List Value)} (hp : ρ (.tmp s) = .pointer (some ⟨g, 0, none⟩)) (hv : ρ (.tmp d) = .agg us.toArray) (hu : T.AtL sent W S [fieldsT l] us)
    (hb : Blk W g 24 #[c0]) :
    ∃ W', (execOp ρ ⟨none, .store 24 (.tmp s) (.tmp d), 0, p, after, none⟩).run Tryz.prog W = .ok .skip W' ∧ Blk W' g 24 us.toArray ∧ W.grownBy W' (some g) ∧ W'.heap.size = W.heap.size := by
  obtain ⟨v, r, rfl, h, hr⟩ := AtL.cons_ hu
  obtain rfl := AtL.nil_ hr
  obtain ⟨L, c, rfl, _, _⟩ := at_slice h
  have q0 : W.cell? ⟨g, 0, none⟩ = some c0 := hb.cell 0
  have z0 := hb.frozen 0
  refine ⟨_, by go_simp, hb.set_ 0 _, only_setCell (World.grownBy.refl W _) (.inl rfl) _, by simp [World.setCell]⟩
theorem store_1d {s d : Nat} {p : String} {ρ : Operand → Value} {W : World} {after : Array Edge} {g : Nat} {us : List Value} {l : List ET} {S : Nat → Prop} {c0 : Value} {sent : Nat → List (List Value)} (hp : ρ (.tmp s) = .pointer (some ⟨g, 0, none⟩)) (hv : ρ (.tmp d) = .agg us.toArray) (hu : T.AtL sent W S [entriesT l] us)
    (hb : Blk W g 30 #[c0]) :
    ∃ W', (execOp ρ ⟨none, .store 30 (.tmp s) (.tmp d), 0, p, after, none⟩).run Tryz.prog W = .ok .skip W' ∧ Blk W' g 30 us.toArray ∧ W.grownBy W' (some g) ∧ W'.heap.size = W.heap.size := by
  obtain ⟨v, r, rfl, h, hr⟩ := AtL.cons_ hu
  obtain rfl := AtL.nil_ hr
  obtain ⟨L, c, rfl, _, _⟩ := at_slice h
  have q0 : W.cell? ⟨g, 0, none⟩ = some c0 := hb.cell 0
  have z0 := hb.frozen 0
  refine ⟨_, by go_simp, hb.set_ 0 _, only_setCell (World.grownBy.refl W _) (.inl rfl) _, by simp [World.setCell]⟩
end Go.Proofs.YtfckomjbgopmaaaGreatDoor.SchTwo
end
section
set_option linter.unusedVariables false
namespace Go.Proofs.YtfckomjbgopmaaaGreatDoor.Sch
open Go.RowKit Words Tree SchP Kit Owned

set_option maxRecDepth 100000 in
set_option maxHeartbeats 4000000 in
theorem keptSchema_any (v u : Value) (l : List FT) (w : World) (hv : T.At lent w (fun g => g < w.heap.size) (fieldsT l) v) (hu : T.At bare w (fun g => g < w.heap.size) (fieldsT l) u)
    (hx : l.length * 72 ≤ 140737488351232) (ox : ∀ f ∈ l, FOk f) :
    Calls Tryz.prog 17 #[.agg #[v], .agg #[u]] w (AnsB true w) := by
  obtain ⟨ad, c, rfl, hcap, hmA, hadb, hmark, eA⟩ := at_row_mark fcells_len lent_seven hv
  obtain ⟨B, d, rfl, _, hmB, eB⟩ := at_row fcells_len hu
  have HC := Lib.hid (fun (W : World) (hW : Below w.heap.size w W) => kitSchema_same _ _ l W (At.below (At.bare hv) hW (fun g hg => Nat.lt_of_lt_of_le hg hW.size)) (At.below hu hW (fun g hg => Nat.lt_of_lt_of_le hg hW.size)) hx ox)
  have EA := Lib.hid eA; have EB := Lib.hid eB; have OX := Lib.hid ox
  have MK : Hid (w.cell? (ad.add (l.length * 7)) = some (.string ⟨#[109, 97, 114, 107]⟩)) := Lib.hid (by have := hmark.zero; exact this)
  have hmA' := hmA
  unfold maxLen at hmA'
  clear eA eB hv hu ox hmark
  go_enter Tryz.func17, Tryz.ntmps17
  have BA := Lib.hid (blk_a w #[.slice (some ad) l.length c] #[.slice B l.length d] 24 24)
  have BB := Lib.hid (blk_b w #[.slice (some ad) l.length c] #[.slice B l.length d] 24 24)
  go_wp2_with fail
  refine (HC.out _ (below2 _ _)).mono ?_
  rintro e W ⟨rfl, b0⟩
  have HB := Lib.hid ((below2 _ _).trans (b0.mono (by simp; omega)) : Below w.heap.size w W)
  have BA1 := Lib.hid (BA.out.below b0 (by simp; omega))
  have BB1 := Lib.hid (BB.out.below b0 (by simp))
  have hzW : w.heap.size + 2 ≤ W.heap.size := BB1.out.lt
  clear b0 BA BB
  go_wp2_with fail
  go_loopw [5] (fun i wr => ∃ (k : Nat), k ≤ l.length ∧ i = .int .i64 k ∧ Hid (Below W.heap.size W wr)) (fun i _ => l.length - (intOf i).toNat)
  case atStart => exact ⟨0, by omega, rfl, Lib.hid (Below.refl _ _)⟩
  case round =>
    obtain ⟨k, hk, rfl, HK⟩ := hrel
    have BA2 := Lib.hid (BA1.out.below HK.out BA1.out.lt)
    have BB2 := Lib.hid (BB1.out.below HK.out BB1.out.lt)
    have hcA : wr.cell? ⟨w.heap.size, 0, none⟩ = some (.slice (some ad) l.length c) := BA2.out.cell 0
    have hcB : wr.cell? ⟨w.heap.size + 1, 0, none⟩ = some (.slice B l.length d) := BB2.out.cell 0
    have hzr := HK.out.size
    have HW : Hid (Below w.heap.size w wr) := Lib.hid (HB.out.trans (HK.out.mono HB.out.size))
    by_cases hlt : k < l.length
    · obtain ⟨us, au, lu, cu⟩ := EA.out k hlt
      obtain ⟨bd, us2, rfl, hbb, au2, lu2, cu2⟩ := EB.out k hlt
      replace cu := cu.keep (w' := wr) (fun p hp => HW.out.cell (by rw [hp, block_of_add]; exact hadb))
      replace cu2 := cu2.keep (w' := wr) (fun p hp => HW.out.cell (by rw [hp, block_of_add]; exact hbb))
      have hok := OX.out _ (List.getElem_mem hlt)
      generalize hx1 : l[k] = f at *
      clear hx1
      obtain ⟨vl, rfl, al⟩ := at_fcells au
      obtain ⟨vj, rfl, aj⟩ := at_fcells au2
      obtain ⟨X, z, rfl, _, _⟩ := at_slice al
      obtain ⟨Y, z2, rfl, _, _, hrj⟩ := at_nums aj
      obtain ⟨-, -, a2, -, -, -, -⟩ := seven cu
      obtain ⟨-, -, b2, -, -, -, -⟩ := seven cu2
      have HC1 : Hid (∀ (W : World), Below w.heap.size w W → Calls Tryz.prog 40 #[.slice X f.chain.length z, .slice Y f.chain.length z2] W (AnsB true W)) := Lib.hid (fun W hW =>
        keptInt_any _ Y z2 _ _ W (At.below al hW (fun g hg => Nat.lt_of_lt_of_le hg hW.size)) ((hrj.below hW).more hW.size) hok.chain.1 hok.chain.1 true (by simp))
      clear cu cu2 au au2 lu lu2 al aj hrj hok
      obtain ⟨f0, f1, f2, f3, f4, f5, f6⟩ := f
      go_upto_region 6 with fail
      have hBW : Below w.heap.size w ({ wr with drawn := wr.drawn + 1 } : World) := HW.out.trans ⟨rfl, rfl, rfl, Nat.le_refl _, fun _ _ => rfl⟩
      have hBV : Below W.heap.size W ({ wr with drawn := wr.drawn + 1 } : World) := HK.out.trans ⟨rfl, rfl, rfl, Nat.le_refl _, fun _ _ => rfl⟩
      change ({ wr with drawn := wr.drawn + 1 } : World).cell? _ = _ at hcA hcB a2 b2
      refine wp_region_still_tail 12 (by kernel_rfl) (by kernel_rfl) ?_
      simp only [List.take_succ_cons, List.take_zero, List.drop_succ_cons, List.drop_zero]
      clear HW HK hzr
      generalize ({ wr with drawn := wr.drawn + 1 } : World) = V at *
      repeat still_step
      refine wpStill_nil ?_
      change wpList _ _ _ _ _ _
      have HBW := Lib.hid hBW; have HBV := Lib.hid hBV; clear hBW hBV
      clear a2 b2 hcA hcB
      go_wp2_with fail
      refine (HC1.out _ HBW.out).mono ?_
      rintro e W2 ⟨rfl, bW⟩
      have BV := Lib.hid (HBV.out.trans (bW.mono HBV.out.size))
      clear bW
      go_wp2_with fail
      go_roundw
      case rel => exact ⟨k + 1, by omega, by go_num, BV⟩
      case measure => simp [intOf]; omega
    · obtain rfl : k = l.length := by omega
      have hmk : wr.cell? (ad.add (l.length * 7)) = some (.string ⟨#[109, 97, 114, 107]⟩) := (HW.out.cell (by rw [block_of_add]; exact hadb)).trans MK.out
      go_wp2_with fail
      go_ret
      exact ⟨rfl, HW.out⟩
end Go.Proofs.YtfckomjbgopmaaaGreatDoor.Sch
end
