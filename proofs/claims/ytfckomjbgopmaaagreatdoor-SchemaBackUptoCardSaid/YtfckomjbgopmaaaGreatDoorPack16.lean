/- Contract: slices.Clone over numbers. Contracts: rows of cells compared, lent, kept. Written by gen_cells.py out of the texts on entries. -/
import Derived.Test.YtfckomjbgopmaaaGreatDoorPack12
import Derived.Test.YtfckomjbgopmaaaGreatDoorPack15
section
set_option linter.unusedVariables false
namespace Go.Proofs.YtfckomjbgopmaaaGreatDoor.Sch
open Go.RowKit Words Tree SchP Kit Owned

set_option maxRecDepth 100000 in
theorem eql_nilS (n c : Nat) (w : World) : (binOp .eql 55 (.slice none n c) (.slice none 0 0)).run Tryz.prog w = .ok (.bool true) w := by rfl
set_option maxRecDepth 100000 in
theorem eql_someS (ad : Addr) (n c : Nat) (w : World) : (binOp .eql 55 (.slice (some ad) n c) (.slice none 0 0)).run Tryz.prog w = .ok (.bool false) w := by rfl
set_option maxRecDepth 100000 in
theorem clone_any (v : Value) (l : List Int) (w : World) (hv : T.At bare w (fun g => g < w.heap.size) (numsT .i64 l) v) (hl : l.length * 8 ≤ 140737488351232) :
    Calls Tryz.prog 31 #[v] w (FreshT (numsT .i64 l) w) := by
  obtain ⟨A, cap, rfl, hc, hm, hr⟩ := at_nums hv
  clear hv
  obtain ⟨i0, hi, hz0, hz1, hz2⟩ := info_parts infoI64
  cases A with
  | none =>
    have h0 : l = [] := by
      rcases Nat.eq_zero_or_pos l.length with h | h
      · exact List.eq_nil_of_length_eq_zero h
      · obtain ⟨ad, e, _⟩ := hr.2 h; cases e
    subst h0
    clear hr
    have hq := eql_nilS
    go_enter Tryz.func31, Tryz.ntmps31
    go_wp2_with fail
    go_ret
    exact ⟨_, rfl, nums_cells (B := w.heap.size) (e := 2) (World.ownsRow_nil _ _ _ _), Below.refl _ _⟩
  | some ad =>
    have hq := eql_someS
    go_enter Tryz.func31, Tryz.ntmps31
    go_wp2_with (at_builtin; refine wpList_append_any _ rfl (.tmp 5) (.tmp 6) 55 rfl w.heap.size 2 i0 (.int .i64 0) 1 8 Tryz.underlying55 hi hz0 hz1 hz2 rfl (by decide) _ 0 [] rfl (own_empty w _ _ _ (Nat.le_refl _)) w.heap.size (some ad) l.length cap (l.map (Value.int .i64)) rfl (hr.alloc (Nat.le_refl _) _) ?c2 ?c3 ?c4 ?c5 ?_)
    case c2 => intro u hu; obtain ⟨z, _, rfl⟩ := List.mem_map.1 hu; rfl
    case c3 => unfold maxLen; omega
    case c4 => omega
    case c5 => simp
    intro v1 w1 ho1 hg1 _
    have hb1 : Below w.heap.size w w1 := ((Below.refl _ w).alloc (Nat.le_refl _) _).grown hg1 (by simp) (fun r e => by simp [Value.ownBlock] at e; omega)
    replace ho1 : w1.ownsRow w.heap.size 2 1 v1 l.length (l.map (Value.int .i64)) := by simpa using ho1
    have HB1 := Lib.hid hb1
    have HO1 := Lib.hid ho1
    clear hg1 hb1 ho1
    go_wp2_with fail
    go_ret
    exact ⟨_, rfl, nums_cells HO1.out, HB1.out⟩
end Go.Proofs.YtfckomjbgopmaaaGreatDoor.Sch
end
section
set_option linter.unusedVariables false
namespace Go.Proofs.YtfckomjbgopmaaaGreatDoor.Sch
open Go.RowKit Words Tree SchP Kit Owned

theorem cdiff (x y : CT) : (¬ x.field = y.field) ∨ (x.field = y.field ∧ ¬ x.text = y.text) ∨ (x.field = y.field ∧ x.text = y.text ∧ ¬ x.nums = y.nums) ∨ x = y := by
  by_cases h1 : x.field = y.field
  · by_cases h2 : x.text = y.text
    · by_cases h3 : x.nums = y.nums
      · exact .inr (.inr (.inr (by cases x; cases y; simp_all)))
      · exact .inr (.inr (.inl ⟨h1, h2, h3⟩))
    · exact .inr (.inl ⟨h1, h2⟩)
  · exact .inl h1
theorem infoC : (Tryz.prog.info? 57).map (fun i => (i.zero, i.size, i.bytes)) = some (some (.agg #[.int .i64 0, .string ⟨#[]⟩, .slice none 0 0]), 3, 48) := by kernel_rfl
set_option maxRecDepth 100000 in
set_option maxHeartbeats 4000000 in
theorem kitCells_any (v u : Value) (xs ys : List CT) (w : World) (hv : T.At bare w (fun g => g < w.heap.size) (cellsT xs) v) (hu : T.At bare w (fun g => g < w.heap.size) (cellsT ys) u)
    (hx : xs.length * 48 ≤ 140737488351232) (hy : ys.length * 48 ≤ 140737488351232) (ox : ∀ e ∈ xs, COk e) (oy : ∀ e ∈ ys, COk e) (r : Bool) (hr : r = true ↔ xs = ys) :
    Calls Tryz.prog 22 #[v, u] w (AnsB r w) := by
  obtain ⟨A, c, rfl, _, hmA, eA⟩ := at_row ccells_len hv
  obtain ⟨B, d, rfl, _, hmB, eB⟩ := at_row ccells_len hu
  have EA := Lib.hid eA; have EB := Lib.hid eB; have HR := Lib.hid hr; have OX := Lib.hid ox; have OY := Lib.hid oy
  clear eA eB hv hu hr ox oy
  by_cases hl : xs.length = ys.length
  · have HL := Lib.hid hl
    have hbne : ((xs.length : Int) != (ys.length : Int)) = false := by rw [hl]; simp
    clear hl
    go_enter Tryz.func22, Tryz.ntmps22
    go_wp2_with fail
    go_loopw [5] (fun i wr => ∃ (k : Nat), k ≤ xs.length ∧ i = .int .i64 k ∧ Hid (xs.take k = ys.take k) ∧ Hid (Below w.heap.size w wr)) (fun i _ => xs.length - (intOf i).toNat)
    case atStart => exact ⟨0, by omega, rfl, Lib.hid (by simp), Lib.hid (Below.refl _ _)⟩
    case round =>
      obtain ⟨k, hk, rfl, HE, HW⟩ := hrel
      by_cases hlt : k < xs.length
      · have hlt2 : k < ys.length := by have := HL.out; omega
        obtain ⟨ad, us, rfl, hba, au, lu, cu⟩ := EA.out k hlt
        obtain ⟨bd, us2, rfl, hbb, au2, lu2, cu2⟩ := EB.out k hlt2
        replace cu := cu.keep (w' := wr) (fun p hp => HW.out.cell (by rw [hp, block_of_add]; exact hba))
        replace cu2 := cu2.keep (w' := wr) (fun p hp => HW.out.cell (by rw [hp, block_of_add]; exact hbb))
        have hok := OX.out _ (List.getElem_mem hlt)
        have hok2 := OY.out _ (List.getElem_mem hlt2)
        have HST : Hid (xs.take (k + 1) = xs.take k ++ [xs[k]] ∧ ys.take (k + 1) = ys.take k ++ [ys[k]]) := Lib.hid ⟨take_snoc hlt, take_snoc hlt2⟩
        have HNE : Hid (¬ xs[k] = ys[k] → r = false) := Lib.hid (fun h => by
          rcases bool_cases HR.out with ⟨e, _⟩ | ⟨_, e⟩
          · exact absurd e (ne_at hlt hlt2 h)
          · exact e)
        generalize hx1 : xs[k] = x at *
        generalize hx2 : ys[k] = y at *
        clear hx1 hx2
        obtain ⟨n, t, l⟩ := x
        obtain ⟨m, s, j⟩ := y
        obtain ⟨vl, rfl, al⟩ := at_ccells au
        obtain ⟨vj, rfl, aj⟩ := at_ccells au2
        obtain ⟨X, z, rfl, _, _, hrl⟩ := at_nums al
        obtain ⟨Y, z2, rfl, _, _, hrj⟩ := at_nums aj
        obtain ⟨a0, a1, a2⟩ := three cu
        obtain ⟨b0, b1, b2⟩ := three cu2
        have HC : Hid (∀ (q : Bool) (W : World), (q = true ↔ l = j) → Below w.heap.size w W → Calls Tryz.prog 52 #[.slice X l.length z, .slice Y j.length z2] W (AnsB q W)) := Lib.hid (fun q W hq hW =>
          int64s_any X Y z z2 l j W ((hrl.below hW).more hW.size) ((hrj.below hW).more hW.size) hok.nums.1 hok2.nums.1 q hq)
        clear cu cu2 au au2 lu lu2 al aj hrl hrj hok hok2
        have HD := Lib.hid (cdiff ⟨n, t, l⟩ ⟨m, s, j⟩)
        rcases HD.out with hd | ⟨hd1, hd⟩ | ⟨hd1, hd2, hd⟩ | hd
        · have HF := Lib.hid (HNE.out (fun e => hd (by injection e)))
          obtain ⟨hn1, hn2⟩ := bne_int hd
          clear hd HD HNE
          go_wp2_with fail
          go_quiet (fail)
          go_wp2_with fail
          go_ret
          rw [HF.out]
          exact ⟨rfl, HW.out.trans ⟨rfl, rfl, rfl, Nat.le_refl _, fun _ _ => rfl⟩⟩
        · obtain ⟨hn1, hn2⟩ := bne_str hd
          dsimp only at hd1
          subst hd1
          have HF := Lib.hid (HNE.out (fun e => hd (by injection e)))
          clear hd HD HNE
          go_wp2_with fail
          go_quiet (fail)
          go_wp2_with fail
          go_ret
          rw [HF.out]
          exact ⟨rfl, HW.out.trans ⟨rfl, rfl, rfl, Nat.le_refl _, fun _ _ => rfl⟩⟩
        · have HF := Lib.hid (HNE.out (fun e => hd (by injection e)))
          have HCF := Lib.hid (fun W hW => HC.out false W (by simpa using hd) hW)
          dsimp only at hd1 hd2
          subst hd1 hd2
          clear hd HD HNE HC
          go_upto_region 6 with fail
          have hBW : Below w.heap.size w ({ wr with drawn := wr.drawn + 1 } : World) := HW.out.trans ⟨rfl, rfl, rfl, Nat.le_refl _, fun _ _ => rfl⟩
          change ({ wr with drawn := wr.drawn + 1 } : World).cell? _ = _ at a0 a1 a2 b0 b1 b2
          refine wp_region_still_tail 35 (by kernel_rfl) (by kernel_rfl) ?_
          simp only [List.take_succ_cons, List.take_zero, List.drop_succ_cons, List.drop_zero]
          clear HW
          generalize ({ wr with drawn := wr.drawn + 1 } : World) = W at *
          repeat still_step
          refine wpStill_nil ?_
          change wpList _ _ _ _ _ _
          have HBW := Lib.hid hBW; clear hBW
          clear a0 a1 a2 b0 b1 b2
          go_wp2_with fail
          refine (HCF.out _ HBW.out).mono ?_
          rintro e W2 ⟨rfl, bW⟩
          have BW := Lib.hid (HBW.out.trans (bW.mono HBW.out.size))
          clear bW
          go_wp2_with fail
          go_ret
          rw [HF.out]
          exact ⟨rfl, BW.out⟩
        · have HCT := Lib.hid (fun W hW => HC.out true W (by injection hd with _ _ h3; simpa using h3) hW)
          have HQ := Lib.hid hd
          injection hd with h1 h2 h3
          subst h1 h2 h3
          clear HD HNE HC
          go_upto_region 6 with fail
          have hBW : Below w.heap.size w ({ wr with drawn := wr.drawn + 1 } : World) := HW.out.trans ⟨rfl, rfl, rfl, Nat.le_refl _, fun _ _ => rfl⟩
          change ({ wr with drawn := wr.drawn + 1 } : World).cell? _ = _ at a0 a1 a2 b0 b1 b2
          refine wp_region_still_tail 35 (by kernel_rfl) (by kernel_rfl) ?_
          simp only [List.take_succ_cons, List.take_zero, List.drop_succ_cons, List.drop_zero]
          clear HW
          generalize ({ wr with drawn := wr.drawn + 1 } : World) = W at *
          repeat still_step
          refine wpStill_nil ?_
          change wpList _ _ _ _ _ _
          have HBW := Lib.hid hBW; clear hBW
          clear a0 a1 a2 b0 b1 b2
          go_wp2_with fail
          refine (HCT.out _ HBW.out).mono ?_
          rintro e W2 ⟨rfl, bW⟩
          have BW := Lib.hid (HBW.out.trans (bW.mono HBW.out.size))
          clear bW
          go_wp2_with fail
          go_roundw
          case rel => exact ⟨k + 1, by omega, by go_num, Lib.hid (by rw [HST.out.1, HST.out.2, HE.out]), BW⟩
          case measure => simp [intOf]; omega
      · obtain rfl : k = xs.length := by omega
        have HT : Hid (r = true) := Lib.hid (HR.out.2 (take_all HE.out HL.out))
        go_wp2_with fail
        go_ret
        rw [HT.out]
        exact ⟨rfl, HW.out⟩
  · have hbne : ((xs.length : Int) != (ys.length : Int)) = true := by rw [bne_iff_ne]; omega
    have HF : Hid (r = false) := Lib.hid (by
      rcases bool_cases HR.out with ⟨e, _⟩ | ⟨_, e⟩
      · exact absurd (by rw [e]) hl
      · exact e)
    clear hl
    go_enter Tryz.func22, Tryz.ntmps22
    go_wp2_with fail
    go_ret
    rw [HF.out]
    exact ⟨rfl, Below.refl _ _⟩

end Go.Proofs.YtfckomjbgopmaaaGreatDoor.Sch
end
