/- Contracts: rows of keys compared: the same ones, which goes first; two texts byte by byte. -/
import Derived.Test.YtebagmiclfhelaaDoorOrdBack
import Derived.Deep.QuietTactic
import Derived.BigQuiet
import Derived.Laws.StructEq
set_option linter.unusedVariables false
namespace Go.Proofs.YtebagmiclfhelaaDoor.OrdLib
open Go.RowKit Go.Lib OrdP Kit OrdRef Words Owned

theorem key_ne {x y : KeyD} (h : ¬ x = y) : (x.kind == y.kind) = false ∨ (x.kind = y.kind ∧ (x.num == y.num) = false) ∨ (x.kind = y.kind ∧ x.num = y.num ∧ (x.text.toList == y.text.toList) = false) := by
  obtain ⟨k1, n1, t1⟩ := x
  obtain ⟨k2, n2, t2⟩ := y
  dsimp only
  by_cases h1 : k1 = k2
  · by_cases h2 : n1 = n2
    · refine .inr (.inr ⟨h1, h2, ?_⟩)
      rw [beq_eq_false_iff_ne]
      intro h3
      rw [ByteArray.toList_eq, ByteArray.toList_eq] at h3
      exact h (by rw [h1, h2, ByteArray.ext (Array.toList_inj.1 h3)])
    · exact .inr (.inl ⟨h1, by rw [beq_eq_false_iff_ne]; exact h2⟩)
  · exact .inl (by rw [beq_eq_false_iff_ne]; exact h1)

theorem boolB_drew {b : Bool} {w : World} {k : Nat} : BoolB b w (.returned (.bool b)) (w.drewN k) := ⟨rfl, below_drewN' k⟩

set_option maxRecDepth 100000 in
theorem keysEq_any (ao bo : Option Addr) (c d : Nat) (xs ys : List KeyD) (w : World) (ha : Reads w w.heap.size 3 ao xs.length (keyCells xs)) (hb : Reads w w.heap.size 3 bo ys.length (keyCells ys)) (hla : xs.length ≤ 4194304) (hlb : ys.length ≤ 4194304) (r : Bool) (hr : r = true ↔ xs = ys) :
    Calls Tryd.prog 28 #[.slice ao xs.length c, .slice bo ys.length d] w (BoolB r w) := by
  have HA := Lib.hid ha; have HB := Lib.hid hb; have HR := Lib.hid hr
  clear ha hb hr
  by_cases hl : xs.length = ys.length
  · have HL := Lib.hid hl
    have hbne : ((xs.length : Int) != (ys.length : Int)) = false := by rw [hl]; simp
    clear hl
    go_enter Tryd.func28, Tryd.ntmps28
    go_wp2_with fail
    go_loopw [5] (fun i wr => ∃ (k m : Nat), k ≤ xs.length ∧ i = .int .i64 k ∧ Hid (xs.take k = ys.take k) ∧ wr = w.drewN m) (fun i _ => xs.length - (intOf i).toNat)
    case atStart => exact ⟨0, 0, by omega, rfl, Lib.hid (by simp), rfl⟩
    case round =>
      obtain ⟨k, m, hk, rfl, HE, rfl⟩ := hrel
      by_cases hlt : k < xs.length
      · have hlt2 : k < ys.length := by have := HL.out; omega
        obtain ⟨ad, rfl, hba, a0, a1, a2⟩ := reads_key HA.out hlt
        obtain ⟨bd, rfl, hbb, b0, b1, b2⟩ := reads_key HB.out hlt2
        have HST : Hid (xs.take (k + 1) = xs.take k ++ [xs[k]] ∧ ys.take (k + 1) = ys.take k ++ [ys[k]]) := Lib.hid ⟨List.take_succ_eq_append_getElem hlt, List.take_succ_eq_append_getElem hlt2⟩
        have HNE : Hid (¬ xs[k] = ys[k] → r = false) := Lib.hid (fun h => by
          cases hr0 : r with
          | false => rfl
          | true =>
            have e := HR.out.1 hr0
            subst e
            exact absurd rfl h)
        by_cases he : xs[k] = ys[k]
        · have HQ := Lib.hid he
          rw [← he] at b0 b1 b2
          clear he HNE
          generalize hx : xs[k] = x at *
          clear hx
          obtain ⟨kd, nm, tx⟩ := x
          dsimp only at a0 a1 a2 b0 b1 b2
          go_wp2_with fail
          go_quiet (fail)
          go_wp2_with fail
          go_roundw
          case rel => exact ⟨k + 1, _, by omega, by go_num, Lib.hid (by rw [HST.out.1, HST.out.2, HE.out, ← HQ.out]), by first | rfl | (rw [World.drewN_drewN])⟩
          case measure => simp [intOf]; omega
        · have hne := key_ne he
          have HRF := Lib.hid (HNE.out he)
          clear he HNE HST
          generalize xs[k] = x at *
          generalize ys[k] = y at *
          obtain ⟨k1, n1, t1⟩ := x
          obtain ⟨k2, n2, t2⟩ := y
          dsimp only at a0 a1 a2 b0 b1 b2 hne
          rcases hne with h1 | ⟨rfl, h1⟩ | ⟨rfl, rfl, h1⟩
          all_goals
            go_wp2_with fail
            go_quiet (fail)
            go_wp2_with fail
            go_ret
            rw [HRF.out]
            exact ⟨rfl, ⟨rfl, rfl, rfl, Nat.le_refl _, fun _ _ => rfl⟩⟩
      · obtain rfl : k = xs.length := by omega
        have hT : r = true := by
          rw [HR.out]
          have := HE.out
          rw [List.take_of_length_le (Nat.le_refl _), HL.out, List.take_of_length_le (Nat.le_refl _)] at this
          exact this
        have HRT := Lib.hid hT
        clear hT
        go_wp2_with fail
        go_ret
        rw [HRT.out]
        exact ⟨rfl, ⟨rfl, rfl, rfl, Nat.le_refl _, fun _ _ => rfl⟩⟩
  · have hbne : ((xs.length : Int) != (ys.length : Int)) = true := by rw [bne_iff_ne]; omega
    have HRF : Hid (r = false) := Lib.hid (by
      cases hr0 : r with
      | false => rfl
      | true => exact absurd (by rw [HR.out.1 hr0]) hl)
    clear hl
    go_enter Tryd.func28, Tryd.ntmps28
    go_wp2_with fail
    go_ret
    rw [HRF.out]
    exact ⟨rfl, Below.refl _ _⟩

theorem rowsF_step {xs ys : List KeyD} {k : Nat} (h1 : k < xs.length) (h2 : k < ys.length) : rowsF (xs.drop k) (ys.drop k) = if cmpF xs[k] ys[k] ≠ 0 then cmpF xs[k] ys[k] else rowsF (xs.drop (k + 1)) (ys.drop (k + 1)) := by
  rw [List.drop_eq_getElem_cons h1, List.drop_eq_getElem_cons h2]; rfl
set_option maxRecDepth 100000 in
set_option maxHeartbeats 1000000 in
theorem compareFunc_any (ao bo : Option Addr) (c d : Nat) (xs ys : List KeyD) (w : World) (ha : Reads w w.heap.size 3 ao xs.length (keyCells xs)) (hb : Reads w w.heap.size 3 bo ys.length (keyCells ys)) (hla : xs.length ≤ 4194304) (hlb : ys.length ≤ 4194304) :
    Calls Tryd.prog 50 #[.slice ao xs.length c, .slice bo ys.length d, .func (.func 14) #[] #[]] w (IntB (rowsF xs ys) w) := by
  have HA := Lib.hid ha; have HB := Lib.hid hb
  clear ha hb
  obtain ⟨R, hR⟩ : ∃ R, rowsF xs ys = R := ⟨_, rfl⟩
  rw [hR]
  have HR := Lib.hid hR; clear hR
  go_enter Tryd.func50, Tryd.ntmps50
  go_wp2_with fail
  go_loopw [13] (fun i wr => ∃ k : Nat, k ≤ xs.length ∧ k ≤ ys.length ∧ i = .int .i64 k ∧ Hid (rowsF (xs.drop k) (ys.drop k) = R) ∧ Hid (Below w.heap.size w wr)) (fun i _ => xs.length - (intOf i).toNat)
  case atStart => exact ⟨0, by omega, by omega, rfl, Lib.hid HR.out, Lib.hid (Below.refl _ _)⟩
  case round =>
    obtain ⟨k, hk, hk2, rfl, HE, HW⟩ := hrel
    by_cases hlt : k < xs.length
    · obtain ⟨ad, rfl, hba, a0, a1, a2⟩ := reads_key HA.out hlt
      rw [← HW.out.cell (by rw [block_of_add]; exact hba)] at a0
      rw [← HW.out.cell (by show (ad.add (k * 3)).block < _; rw [block_of_add]; exact hba)] at a1 a2
      by_cases hlt2 : k < ys.length
      · obtain ⟨bd, rfl, hbb, b0, b1, b2⟩ := reads_key HB.out hlt2
        have HS := Lib.hid (rowsF_step hlt hlt2)
        rw [← HW.out.cell (by rw [block_of_add]; exact hbb)] at b0
        rw [← HW.out.cell (by show (bd.add (k * 3)).block < _; rw [block_of_add]; exact hbb)] at b1 b2
        have hwz := HW.out.size
        have hab : (ad.add (k * 3)).block < wr.heap.size := by rw [block_of_add]; omega
        have hbb2 : (bd.add (k * 3)).block < wr.heap.size := by rw [block_of_add]; omega
        generalize hx : xs[k] = x at *
        generalize hy : ys[k] = y at *
        clear hx hy
        have hC : ∀ W, Calls Tryd.prog 14 #[x.v, y.v] W (IntB (cmpF x y) W) := fun W => compare_any x y W
        obtain ⟨z, hz⟩ : ∃ z, cmpF x y = z := ⟨_, rfl⟩
        rw [hz] at hC HS
        clear hz
        obtain ⟨k1, n1, t1⟩ := x
        obtain ⟨k2, n2, t2⟩ := y
        unfold KeyD.v at hC
        dsimp only at a0 a1 a2 b0 b1 b2 hC
        have HC := Lib.hid hC
        clear hC
        by_cases hz : z = 0
        · subst hz
          have HZ : Hid (rowsF (xs.drop (k + 1)) (ys.drop (k + 1)) = R) := Lib.hid (by rw [← HE.out, HS.out]; rfl)
          go_wp2_with fail
          refine (HC.out _).mono ?_
          rintro e W ⟨rfl, bW⟩
          have BW : Hid (Below w.heap.size w W) := Lib.hid (((HW.out.alloc HW.out.size _).alloc (by have := HW.out.size; simp; omega) _).trans (bW.mono (by have := HW.out.size; simp; omega)))
          clear bW a0 a1 a2 b0 b1 b2
          go_wp2_with fail
          go_roundw
          case rel => exact ⟨k + 1, by omega, by omega, by go_num, HZ, BW⟩
          case measure => simp [intOf]; omega
        · have bz : (z != 0) = true := by rw [bne_iff_ne]; exact hz
          have HZ : Hid (z = R) := Lib.hid (by rw [← HE.out, HS.out, if_pos hz])
          clear hz
          go_wp2_with fail
          refine (HC.out _).mono ?_
          rintro e W ⟨rfl, bW⟩
          have BW : Hid (Below w.heap.size w W) := Lib.hid (((HW.out.alloc HW.out.size _).alloc (by have := HW.out.size; simp; omega) _).trans (bW.mono (by have := HW.out.size; simp; omega)))
          clear bW a0 a1 a2 b0 b1 b2
          go_wp2_with fail
          go_ret
          exact ⟨ret_int HZ.out, BW.out⟩
      · obtain rfl : k = ys.length := by omega
        have HZ : Hid ((1 : Int) = R) := Lib.hid (by
          rw [← HE.out, List.drop_length, List.drop_eq_getElem_cons hlt]; rfl)
        generalize xs[ys.length] = x at *
        obtain ⟨k1, n1, t1⟩ := x
        dsimp only at a0 a1 a2
        go_wp2_with fail
        go_ret
        exact ⟨ret_int HZ.out, HW.out.alloc HW.out.size _⟩
    · obtain rfl : k = xs.length := by omega
      by_cases hlt2 : xs.length < ys.length
      · have HZ : Hid ((-1 : Int) = R) := Lib.hid (by
          rw [← HE.out, List.drop_length, List.drop_eq_getElem_cons hlt2]; rfl)
        go_wp2_with fail
        go_ret
        exact ⟨ret_int HZ.out, HW.out⟩
      · have HZ : Hid ((0 : Int) = R) := Lib.hid (by
          rw [← HE.out, List.drop_length, show ys.drop xs.length = [] from List.drop_eq_nil_of_le (by omega)]; rfl)
        go_wp2_with fail
        go_ret
        exact ⟨ret_int HZ.out, HW.out⟩
theorem rows_any (ao bo : Option Addr) (c d : Nat) (xs ys : List KeyD) (w : World) (ha : Reads w w.heap.size 3 ao xs.length (keyCells xs)) (hb : Reads w w.heap.size 3 bo ys.length (keyCells ys)) (hla : xs.length ≤ 4194304) (hlb : ys.length ≤ 4194304) :
    Calls Tryd.prog 26 #[.slice ao xs.length c, .slice bo ys.length d] w (IntB (rowsF xs ys) w) := by
  have HC := Lib.hid (compareFunc_any ao bo c d xs ys w ha hb hla hlb)
  clear ha hb
  generalize rowsF xs ys = R at *
  go_enter Tryd.func26, Tryd.ntmps26
  go_wp2_with fail
  refine HC.out.mono ?_
  rintro e W ⟨rfl, bW⟩
  have BW := Lib.hid bW; clear bW
  go_wp2_with fail
  go_ret
  exact ⟨rfl, BW.out⟩
theorem sign_any (x y : ByteArray) (w : World) : Calls Tryd.prog 32 #[.string x, .string y] w (IntB (cmpB x.data.toList y.data.toList) w) := by
  obtain ⟨r, hr⟩ : ∃ r, cmpB x.data.toList y.data.toList = r := ⟨_, rfl⟩
  rw [hr]
  have HR := Lib.hid hr; clear hr
  cases hl : Op.bytesLess x.toList y.toList with
  | true =>
    have HL := Lib.hid hl
    go_enter Tryd.func32, Tryd.ntmps32
    go_wp2_with fail
    go_ret
    exact ⟨ret_int (by rw [← HR.out, cmpB_lt _ _ (by rw [← ByteArray.toList_eq, ← ByteArray.toList_eq]; exact HL.out)]), Below.refl _ _⟩
  | false =>
    have HL := Lib.hid hl
    cases he : x.toList == y.toList with
    | true =>
      have HE := Lib.hid he
      go_enter Tryd.func32, Tryd.ntmps32
      go_wp2_with fail
      go_ret
      refine ⟨ret_int ?_, Below.refl _ _⟩
      have hq := eq_of_beq HE.out
      rw [ByteArray.toList_eq, ByteArray.toList_eq] at hq
      rw [← HR.out, hq, cmpB_eq]
    | false =>
      have HE := Lib.hid he
      go_enter Tryd.func32, Tryd.ntmps32
      go_wp2_with fail
      go_ret
      exact ⟨ret_int (by rw [← HR.out, cmpB_gt _ _ (by rw [← ByteArray.toList_eq, ← ByteArray.toList_eq]; exact HL.out) (by rw [← ByteArray.toList_eq, ← ByteArray.toList_eq]; exact HE.out)]), Below.refl _ _⟩
end Go.Proofs.YtebagmiclfhelaaDoor.OrdLib
