/- Contracts: rows of entries compared, and kept; a document that was lent is as it was. -/
import Derived.Test.YtfckomjbgopmaaaGreatDoorPack9
set_option linter.unusedVariables false
namespace Go.Proofs.YtfckomjbgopmaaaGreatDoor.Sch
open Go.RowKit Words Tree SchP Kit Owned

theorem bne_str {a b : ByteArray} (h : ¬ a = b) : (a.toList != b.toList) = true ∧ (a.toList == b.toList) = false := by
  have : ¬ a.toList = b.toList := fun e => by
    rw [ByteArray.toList_eq, ByteArray.toList_eq] at e
    exact h (ByteArray.ext (Array.toList_inj.1 e))
  exact ⟨by rw [bne_iff_ne]; exact this, by rw [beq_eq_false_iff_ne]; exact this⟩
theorem three {w : World} {ad : Addr} {v0 v1 v2 : Value} (h : Cells w ad [v0, v1, v2]) :
    w.cell? ad = some v0 ∧ w.cell? ⟨ad.block, ad.off + 1, none⟩ = some v1 ∧ w.cell? ⟨ad.block, ad.off + 2, none⟩ = some v2 :=
  ⟨h.zero, h.at_ 1 _ rfl (by omega), h.at_ 2 _ rfl (by omega)⟩
theorem take_all {α : Type} {l m : List α} (h : l.take l.length = m.take l.length) (hl : l.length = m.length) : l = m := by
  rw [List.take_of_length_le (Nat.le_refl _), hl, List.take_of_length_le (Nat.le_refl _)] at h
  exact h
theorem ne_at {α : Type} {ks js : List α} {k : Nat} (h1 : k < ks.length) (h2 : k < js.length) (h : ¬ ks[k] = js[k]) : ¬ ks = js := fun e => by subst e; exact h rfl
theorem bool_cases {b : Bool} {p : Prop} (h : b = true ↔ p) : (p ∧ b = true) ∨ (¬ p ∧ b = false) := by cases b <;> simp_all
theorem ediff (x y : ET) : (¬ x.field = y.field) ∨ (x.field = y.field ∧ ¬ x.text = y.text) ∨ (x.field = y.field ∧ x.text = y.text ∧ ¬ x.nums = y.nums) ∨ x = y := by
  by_cases h1 : x.field = y.field
  · by_cases h2 : x.text = y.text
    · by_cases h3 : x.nums = y.nums
      · exact .inr (.inr (.inr (by cases x; cases y; simp_all)))
      · exact .inr (.inr (.inl ⟨h1, h2, h3⟩))
    · exact .inr (.inl ⟨h1, h2⟩)
  · exact .inl h1

set_option maxRecDepth 100000 in
set_option maxHeartbeats 4000000 in
theorem entries_any (v u : Value) (xs ys : List ET) (w : World) (hv : T.At bare w (fun g => g < w.heap.size) (entriesT xs) v) (hu : T.At bare w (fun g => g < w.heap.size) (entriesT ys) u)
    (hx : xs.length * 56 ≤ 140737488351232) (hy : ys.length * 56 ≤ 140737488351232) (ox : ∀ e ∈ xs, EOk e) (oy : ∀ e ∈ ys, EOk e) (r : Bool) (hr : r = true ↔ xs = ys) :
    Calls Tryz.prog 36 #[v, u] w (AnsB r w) := by
  obtain ⟨A, c, rfl, _, hmA, eA⟩ := at_row ecells_len hv
  obtain ⟨B, d, rfl, _, hmB, eB⟩ := at_row ecells_len hu
  have EA := Lib.hid eA; have EB := Lib.hid eB; have HR := Lib.hid hr; have OX := Lib.hid ox; have OY := Lib.hid oy
  clear eA eB hv hu hr ox oy
  by_cases hl : xs.length = ys.length
  · have HL := Lib.hid hl
    have hbne : ((xs.length : Int) != (ys.length : Int)) = false := by rw [hl]; simp
    clear hl
    go_enter Tryz.func36, Tryz.ntmps36
    go_wp2_with fail
    go_loopw [5] (fun i wr => ∃ (k : Nat), k ≤ xs.length ∧ i = .int .i64 k ∧ Hid (xs.take k = ys.take k) ∧ Hid (Below w.heap.size w wr)) (fun i _ => xs.length - (intOf i).toNat)
    case atStart => exact ⟨0, by omega, rfl, Lib.hid (by simp), Lib.hid (Below.refl _ _)⟩
    case round =>
      obtain ⟨k, hk, rfl, HE, HW⟩ := hrel
      by_cases hlt : k < xs.length
      · have hlt2 : k < ys.length := by have := HL.out; omega
        obtain ⟨ad, us, rfl, hba, au, lu, cu⟩ := EA.out k hlt
        obtain ⟨bd, us2, rfl, hbb, au2, lu2, cu2⟩ := EB.out k hlt2
        replace cu := cu.keep (w' := wr) (fun p hp => HW.out.cell (by rw [hp, block_of_add]; exact hba))
        replace cu2 := cu2.keep (w' := wr) (fun p hp => HW.out.cell (by rw [hp, block_of_add]; exact hbb))
        have hok := OX.out _ (List.getElem_mem hlt)
        have hok2 := OY.out _ (List.getElem_mem hlt2)
        have HST : Hid (xs.take (k + 1) = xs.take k ++ [xs[k]] ∧ ys.take (k + 1) = ys.take k ++ [ys[k]]) := Lib.hid ⟨take_snoc hlt, take_snoc hlt2⟩
        have HNE : Hid (¬ xs[k] = ys[k] → r = false) := Lib.hid (fun h => by
          rcases bool_cases HR.out with ⟨e, _⟩ | ⟨_, e⟩
          · exact absurd e (ne_at hlt hlt2 h)
          · exact e)
        generalize hx1 : xs[k] = x at *
        generalize hx2 : ys[k] = y at *
        clear hx1 hx2
        obtain ⟨n, t, l⟩ := x
        obtain ⟨m, s, j⟩ := y
        obtain ⟨vl, rfl, al⟩ := at_ecells au
        obtain ⟨vj, rfl, aj⟩ := at_ecells au2
        obtain ⟨X, z, rfl, _, _, hrl⟩ := at_nums al
        obtain ⟨Y, z2, rfl, _, _, hrj⟩ := at_nums aj
        obtain ⟨a0, a1, a2⟩ := three cu
        obtain ⟨b0, b1, b2⟩ := three cu2
        have HC : Hid (∀ (q : Bool) (W : World), (q = true ↔ l = j) → Below w.heap.size w W → Calls Tryz.prog 52 #[.slice X l.length z, .slice Y j.length z2] W (AnsB q W)) := Lib.hid (fun q W hq hW =>
          int64s_any X Y z z2 l j W ((hrl.below hW).more hW.size) ((hrj.below hW).more hW.size) hok.nums.1 hok2.nums.1 q hq)
        clear cu cu2 au au2 lu lu2 al aj hrl hrj hok hok2
        have HD := Lib.hid (ediff ⟨n, t, l⟩ ⟨m, s, j⟩)
        rcases HD.out with hd | ⟨hd1, hd⟩ | ⟨hd1, hd2, hd⟩ | hd
        · have HF := Lib.hid (HNE.out (fun e => hd (by injection e)))
          obtain ⟨hn1, hn2⟩ := bne_str hd
          clear hd HD HNE
          go_wp2_with fail
          go_quiet (fail)
          go_wp2_with fail
          go_ret
          rw [HF.out]
          exact ⟨rfl, HW.out.trans ⟨rfl, rfl, rfl, Nat.le_refl _, fun _ _ => rfl⟩⟩
        · obtain ⟨hn1, hn2⟩ := bne_str hd
          dsimp only at hd1
          subst hd1
          have HF := Lib.hid (HNE.out (fun e => hd (by injection e)))
          clear hd HD HNE
          go_wp2_with fail
          go_quiet (fail)
          go_wp2_with fail
          go_ret
          rw [HF.out]
          exact ⟨rfl, HW.out.trans ⟨rfl, rfl, rfl, Nat.le_refl _, fun _ _ => rfl⟩⟩
        · have HF := Lib.hid (HNE.out (fun e => hd (by injection e)))
          have HCF := Lib.hid (fun W hW => HC.out false W (by simpa using hd) hW)
          dsimp only at hd1 hd2
          subst hd1 hd2
          clear hd HD HNE HC
          go_upto_region 6 with fail
          have hBW : Below w.heap.size w ({ wr with drawn := wr.drawn + 1 } : World) := HW.out.trans ⟨rfl, rfl, rfl, Nat.le_refl _, fun _ _ => rfl⟩
          change ({ wr with drawn := wr.drawn + 1 } : World).cell? _ = _ at a0 a1 a2 b0 b1 b2
          refine wp_region_still_tail 35 (by kernel_rfl) (by kernel_rfl) ?_
          simp only [List.take_succ_cons, List.take_zero, List.drop_succ_cons, List.drop_zero]
          clear HW
          generalize ({ wr with drawn := wr.drawn + 1 } : World) = W at *
          repeat still_step
          refine wpStill_nil ?_
          change wpList _ _ _ _ _ _
          have HBW := Lib.hid hBW; clear hBW
          clear a0 a1 a2 b0 b1 b2
          go_wp2_with fail
          refine (HCF.out _ HBW.out).mono ?_
          rintro e W2 ⟨rfl, bW⟩
          have BW := Lib.hid (HBW.out.trans (bW.mono HBW.out.size))
          clear bW
          go_wp2_with fail
          go_ret
          rw [HF.out]
          exact ⟨rfl, BW.out⟩
        · have HCT := Lib.hid (fun W hW => HC.out true W (by injection hd with _ _ h3; simpa using h3) hW)
          have HQ := Lib.hid hd
          injection hd with h1 h2 h3
          subst h1 h2 h3
          clear HD HNE HC
          go_upto_region 6 with fail
          have hBW : Below w.heap.size w ({ wr with drawn := wr.drawn + 1 } : World) := HW.out.trans ⟨rfl, rfl, rfl, Nat.le_refl _, fun _ _ => rfl⟩
          change ({ wr with drawn := wr.drawn + 1 } : World).cell? _ = _ at a0 a1 a2 b0 b1 b2
          refine wp_region_still_tail 35 (by kernel_rfl) (by kernel_rfl) ?_
          simp only [List.take_succ_cons, List.take_zero, List.drop_succ_cons, List.drop_zero]
          clear HW
          generalize ({ wr with drawn := wr.drawn + 1 } : World) = W at *
          repeat still_step
          refine wpStill_nil ?_
          change wpList _ _ _ _ _ _
          have HBW := Lib.hid hBW; clear hBW
          clear a0 a1 a2 b0 b1 b2
          go_wp2_with fail
          refine (HCT.out _ HBW.out).mono ?_
          rintro e W2 ⟨rfl, bW⟩
          have BW := Lib.hid (HBW.out.trans (bW.mono HBW.out.size))
          clear bW
          go_wp2_with fail
          go_roundw
          case rel => exact ⟨k + 1, by omega, by go_num, Lib.hid (by rw [HST.out.1, HST.out.2, HE.out]), BW⟩
          case measure => simp [intOf]; omega
      · obtain rfl : k = xs.length := by omega
        have HT : Hid (r = true) := Lib.hid (HR.out.2 (take_all HE.out HL.out))
        go_wp2_with fail
        go_ret
        rw [HT.out]
        exact ⟨rfl, HW.out⟩
  · have hbne : ((xs.length : Int) != (ys.length : Int)) = true := by rw [bne_iff_ne]; omega
    have HF : Hid (r = false) := Lib.hid (by
      rcases bool_cases HR.out with ⟨e, _⟩ | ⟨_, e⟩
      · exact absurd (by rw [e]) hl
      · exact e)
    clear hl
    go_enter Tryz.func36, Tryz.ntmps36
    go_wp2_with fail
    go_ret
    rw [HF.out]
    exact ⟨rfl, Below.refl _ _⟩

set_option maxRecDepth 100000 in
set_option maxHeartbeats 4000000 in
theorem keptEntries_any (v u : Value) (xs : List ET) (w : World) (hv : T.At lent w (fun g => g < w.heap.size) (entriesT xs) v) (hu : T.At bare w (fun g => g < w.heap.size) (entriesT xs) u)
    (hx : xs.length * 56 ≤ 140737488351232) (ox : ∀ e ∈ xs, EOk e) :
    Calls Tryz.prog 53 #[v, u] w (AnsB true w) := by
  have hC := entries_any v u xs xs w (At.bare hv) hu hx hx ox ox true (by simp)
  obtain ⟨ad, c, rfl, hcap, hmA, hadb, hmark, eA⟩ := at_row_mark ecells_len lent_three hv
  obtain ⟨B, d, rfl, _, hmB, eB⟩ := at_row ecells_len hu
  have EA := Lib.hid eA; have EB := Lib.hid eB; have OX := Lib.hid ox; have HC := Lib.hid hC
  have MK : Hid (w.cell? (ad.add (xs.length * 3)) = some (.string ⟨#[109, 97, 114, 107]⟩)) := Lib.hid (by have := hmark.zero; exact this)
  have hmA' := hmA
  unfold maxLen at hmA'
  clear eA eB hv hu ox hC hmark
  go_enter Tryz.func53, Tryz.ntmps53
  go_wp2_with fail
  refine HC.out.mono ?_
  rintro e W0 ⟨rfl, b0⟩
  have HB0 := Lib.hid b0
  clear b0
  go_wp2_with fail
  go_loopw [5] (fun i wr => ∃ (k : Nat), k ≤ xs.length ∧ i = .int .i64 k ∧ Hid (Below w.heap.size w wr)) (fun i _ => xs.length - (intOf i).toNat)
  case atStart => exact ⟨0, by omega, rfl, HB0⟩
  case round =>
    obtain ⟨k, hk, rfl, HW⟩ := hrel
    by_cases hlt : k < xs.length
    · obtain ⟨us, au, lu, cu⟩ := EA.out k hlt
      obtain ⟨bd, us2, rfl, hbb, au2, lu2, cu2⟩ := EB.out k hlt
      replace cu := cu.keep (w' := wr) (fun p hp => HW.out.cell (by rw [hp, block_of_add]; exact hadb))
      replace cu2 := cu2.keep (w' := wr) (fun p hp => HW.out.cell (by rw [hp, block_of_add]; exact hbb))
      have hok := OX.out _ (List.getElem_mem hlt)
      generalize hx1 : xs[k] = x at *
      clear hx1
      obtain ⟨n, t, l⟩ := x
      obtain ⟨vl, rfl, al⟩ := at_ecells au
      obtain ⟨vj, rfl, aj⟩ := at_ecells au2
      obtain ⟨Y, z2, rfl, _, _, hrj⟩ := at_nums aj
      obtain ⟨X, z, rfl, _, _⟩ := at_slice al
      obtain ⟨-, -, a2⟩ := three cu
      obtain ⟨-, -, b2⟩ := three cu2
      have HC1 : Hid (∀ (W : World), Below w.heap.size w W → Calls Tryz.prog 41 #[.slice X l.length z, .slice Y l.length z2] W (AnsB true W)) := Lib.hid (fun W hW =>
        kept64_any _ Y z2 l l W (At.below al hW (fun g hg => Nat.lt_of_lt_of_le hg hW.size)) ((hrj.below hW).more hW.size) hok.nums.1 hok.nums.1 true (by simp))
      clear cu cu2 au au2 lu lu2 al aj hrj hok
      go_upto_region 6 with fail
      have hBW : Below w.heap.size w ({ wr with drawn := wr.drawn + 1 } : World) := HW.out.trans ⟨rfl, rfl, rfl, Nat.le_refl _, fun _ _ => rfl⟩
      change ({ wr with drawn := wr.drawn + 1 } : World).cell? _ = _ at a2 b2
      refine wp_region_still_tail 10 (by kernel_rfl) (by kernel_rfl) ?_
      simp only [List.take_succ_cons, List.take_zero, List.drop_succ_cons, List.drop_zero]
      clear HW
      generalize ({ wr with drawn := wr.drawn + 1 } : World) = W at *
      repeat still_step
      refine wpStill_nil ?_
      change wpList _ _ _ _ _ _
      have HBW := Lib.hid hBW; clear hBW
      clear a2 b2
      go_wp2_with fail
      refine (HC1.out _ HBW.out).mono ?_
      rintro e W2 ⟨rfl, bW⟩
      have BW := Lib.hid (HBW.out.trans (bW.mono HBW.out.size))
      clear bW
      go_wp2_with fail
      go_roundw
      case rel => exact ⟨k + 1, by omega, by go_num, BW⟩
      case measure => simp [intOf]; omega
    · obtain rfl : k = xs.length := by omega
      have hmk : wr.cell? (ad.add (xs.length * 3)) = some (.string ⟨#[109, 97, 114, 107]⟩) := (HW.out.cell (by rw [block_of_add]; exact hadb)).trans MK.out
      go_wp2_with fail
      go_ret
      exact ⟨rfl, HW.out⟩

set_option maxRecDepth 100000 in
theorem keptDoc_any (v u : Value) (xs : List ET) (w : World) (hv : T.At lent w (fun g => g < w.heap.size) (entriesT xs) v) (hu : T.At bare w (fun g => g < w.heap.size) (entriesT xs) u)
    (hx : xs.length * 56 ≤ 140737488351232) (ox : ∀ e ∈ xs, EOk e) :
    Calls Tryz.prog 23 #[.agg #[v], .agg #[u]] w (AnsB true w) := by
  obtain ⟨A, c, rfl, _, _⟩ := at_slice hv
  obtain ⟨B, d, rfl, _, _⟩ := at_slice hu
  have HC := Lib.hid (fun (W : World) (hW : Below w.heap.size w W) => keptEntries_any _ _ xs W (At.below hv hW (fun g hg => Nat.lt_of_lt_of_le hg hW.size)) (At.below hu hW (fun g hg => Nat.lt_of_lt_of_le hg hW.size)) hx ox)
  clear hv hu
  go_enter Tryz.func23, Tryz.ntmps23
  go_wp2_with fail
  refine (HC.out _ (below2 _ _)).mono ?_
  rintro e W0 ⟨rfl, b0⟩
  have HB0 := Lib.hid ((below2 _ _).trans (b0.mono (by simp; omega)) : Below w.heap.size w W0)
  clear b0
  go_wp2_with fail
  go_ret
  exact ⟨rfl, HB0.out⟩

theorem blk7 {w : World} {g : Nat} {t : TypeId} {v0 v1 v2 v3 v4 v5 v6 : Value} (h : Blk w g t #[v0, v1, v2, v3, v4, v5, v6]) :
    w.cell? ⟨g, 0, none⟩ = some v0 ∧ w.cell? ⟨g, 1, none⟩ = some v1 ∧ w.cell? ⟨g, 2, none⟩ = some v2 ∧ w.cell? ⟨g, 3, none⟩ = some v3 ∧ w.cell? ⟨g, 4, none⟩ = some v4 ∧ w.cell? ⟨g, 5, none⟩ = some v5 ∧ w.cell? ⟨g, 6, none⟩ = some v6 :=
  ⟨h.cell 0, h.cell 1, h.cell 2, h.cell 3, h.cell 4, h.cell 5, h.cell 6⟩
set_option maxRecDepth 100000 in
set_option maxHeartbeats 4000000 in
theorem kitSchema_same (v u : Value) (l : List FT) (w : World) (hv : T.At bare w (fun g => g < w.heap.size) (fieldsT l) v) (hu : T.At bare w (fun g => g < w.heap.size) (fieldsT l) u)
    (hx : l.length * 72 ≤ 140737488351232) (ox : ∀ f ∈ l, FOk f) :
    Calls Tryz.prog 39 #[.agg #[v], .agg #[u]] w (AnsB true w) := by
  obtain ⟨A, c, rfl, _, hmA, eA⟩ := at_row fcells_len hv
  obtain ⟨B, d, rfl, _, hmB, eB⟩ := at_row fcells_len hu
  have EA := Lib.hid eA; have EB := Lib.hid eB; have OX := Lib.hid ox
  clear eA eB hv hu ox
  go_enter Tryz.func39, Tryz.ntmps39
  have HB := Lib.hid (below2 (w := w) (.cells #[.slice A l.length c] 24) (.cells #[.slice B l.length d] 24))
  have BA := Lib.hid (blk_a w #[.slice A l.length c] #[.slice B l.length d] 24 24)
  have BB := Lib.hid (blk_b w #[.slice A l.length c] #[.slice B l.length d] 24 24)
  have hzW : ((w.alloc (Obj.cells #[.slice A l.length c] 24)).alloc (Obj.cells #[.slice B l.length d] 24)).heap.size = w.heap.size + 2 := by simp
  go_wp2_with fail
  generalize (w.alloc (Obj.cells #[.slice A l.length c] 24)).alloc (Obj.cells #[.slice B l.length d] 24) = W at *
  go_loopw [5] (fun i wr => ∃ (k : Nat), k ≤ l.length ∧ i = .int .i64 k ∧ Hid (Below W.heap.size W wr)) (fun i _ => l.length - (intOf i).toNat)
  case atStart => exact ⟨0, by omega, rfl, Lib.hid (Below.refl _ _)⟩
  case round =>
    obtain ⟨k, hk, rfl, HK⟩ := hrel
    have BA2 := Lib.hid (BA.out.below HK.out (by omega))
    have BB2 := Lib.hid (BB.out.below HK.out (by omega))
    have hcA : wr.cell? ⟨w.heap.size, 0, none⟩ = some (.slice A l.length c) := BA2.out.cell 0
    have hcB : wr.cell? ⟨w.heap.size + 1, 0, none⟩ = some (.slice B l.length d) := BB2.out.cell 0
    have hzr := HK.out.size
    have HW : Hid (Below w.heap.size w wr) := Lib.hid (HB.out.trans (HK.out.mono HB.out.size))
    by_cases hlt : k < l.length
    · obtain ⟨ad, us, rfl, hba, au, lu, cu⟩ := EA.out k hlt
      obtain ⟨bd, us2, rfl, hbb, au2, lu2, cu2⟩ := EB.out k hlt
      replace cu := cu.keep (w' := wr) (fun p hp => HW.out.cell (by rw [hp, block_of_add]; exact hba))
      replace cu2 := cu2.keep (w' := wr) (fun p hp => HW.out.cell (by rw [hp, block_of_add]; exact hbb))
      have hbd : (bd.add (k * 7)).block < wr.heap.size := by rw [block_of_add]; omega
      have hw1 : w.heap.size + 1 < wr.heap.size := by omega
      have hok := OX.out _ (List.getElem_mem hlt)
      generalize hx1 : l[k] = f at *
      clear hx1
      obtain ⟨vl, rfl, al⟩ := at_fcells au
      obtain ⟨vj, rfl, aj⟩ := at_fcells au2
      obtain ⟨X, z, rfl, _, _, hrl⟩ := at_nums al
      obtain ⟨Y, z2, rfl, _, _, hrj⟩ := at_nums aj
      obtain ⟨a0, a1, a2, a3, a4, a5, a6⟩ := seven cu
      obtain ⟨b0, b1, b2, b3, b4, b5, b6⟩ := seven cu2
      have HC : Hid (∀ (W : World), Below w.heap.size w W → Calls Tryz.prog 70 #[.slice X f.chain.length z, .slice Y f.chain.length z2] W (AnsB true W)) := Lib.hid (fun W hW =>
        ints_any X Y z z2 _ _ W ((hrl.below hW).more hW.size) ((hrj.below hW).more hW.size) hok.chain.1 hok.chain.1 true (by simp))
      clear cu cu2 au au2 lu lu2 al aj hrl hrj hok
      obtain ⟨f0, f1, f2, f3, f4, f5, f6⟩ := f
      go_wp2_with fail
      refine (HC.out _ (HW.out.trans ((below2 _ _).mono HW.out.size))).mono ?_
      rintro e W0 ⟨rfl, b0'⟩
      have HB0 := Lib.hid ((below2 _ _).trans (b0'.mono (by simp; omega)) : Below wr.heap.size wr W0)
      have BA0 := Lib.hid ((blk_a _ _ _ _ _).below b0' (by simp; omega))
      have BB0 := Lib.hid ((blk_b _ _ _ _ _).below b0' (by simp))
      clear b0' a0 a1 a2 a3 a4 a5 a6 b0 b1 b2 b3 b4 b5 b6 hcA hcB
      obtain ⟨p0, p1, p2, p3, p4, p5, p6⟩ := blk7 BA0.out
      obtain ⟨q0, q1, q2, q3, q4, q5, q6⟩ := blk7 BB0.out
      go_wp2_with fail
      go_roundw
      case rel => exact ⟨k + 1, by omega, by go_num, Lib.hid (HK.out.trans (HB0.out.mono HK.out.size))⟩
      case measure => simp [intOf]; omega
    · obtain rfl : k = l.length := by omega
      go_wp2_with fail
      go_ret
      exact ⟨rfl, HW.out⟩
end Go.Proofs.YtfckomjbgopmaaaGreatDoor.Sch
