/- Contracts: the document's answers for keys: Right, Compare, Rows. -/
import Derived.Test.YtebagmiclfhelaaDoorOrdRows
import Derived.StillTailTactics
set_option linter.unusedVariables false
namespace Go.Proofs.YtebagmiclfhelaaDoor.OrdLib
open Go.RowKit Go.Lib OrdP Kit OrdRef Words Owned

theorem text_empty (tx : ByteArray) : tx = ⟨#[]⟩ ∨ (tx.toList.isEmpty = false ∧ ¬ tx.size = 0) := by
  by_cases h : tx.size = 0
  · left; apply ByteArray.ext; exact Array.eq_empty_of_size_eq_zero h
  · right
    refine ⟨?_, h⟩
    cases hl : tx.toList.isEmpty with
    | false => rfl
    | true =>
      rw [List.isEmpty_iff] at hl
      have hl2 := congrArg List.length hl
      rw [ByteArray.toList_eq] at hl2
      have hl3 : tx.data.toList.length = tx.size := by simp
      exact (h (by rw [← hl3, hl2]; rfl)).elim
set_option maxRecDepth 100000 in
set_option maxHeartbeats 1000000 in
theorem refRight_any (k : KeyD) (w : World) : Calls Tryd.prog 30 #[k.v] w (BoolB (rightF k) w) := by
  obtain ⟨kd, nm, tx⟩ := k
  unfold KeyD.v
  dsimp only
  obtain ⟨r, hr⟩ : ∃ r, rightF ⟨kd, nm, tx⟩ = r := ⟨_, rfl⟩
  rw [hr]
  have HR := Lib.hid hr
  clear hr
  have hk : (kd = 0) ∨ (kd = 1) ∨ (kd = 2) ∨ ((kd == 0) = false ∧ (kd == 1) = false ∧ (kd == 2) = false) := by
    by_cases h0 : kd = 0
    · exact .inl h0
    · by_cases h1 : kd = 1
      · exact .inr (.inl h1)
      · by_cases h2 : kd = 2
        · exact .inr (.inr (.inl h2))
        · exact .inr (.inr (.inr ⟨by rw [beq_eq_false_iff_ne]; exact h0, by rw [beq_eq_false_iff_ne]; exact h1, by rw [beq_eq_false_iff_ne]; exact h2⟩))
  have hn : nm = 0 ∨ (nm == 0) = false := by
    by_cases h : nm = 0
    · exact .inl h
    · exact .inr (by rw [beq_eq_false_iff_ne]; exact h)
  have hno : ∀ a b c : Int, (a == b) = false → ¬ a = b := fun a b c h => by rw [beq_eq_false_iff_ne] at h; exact h
  have hte := text_empty tx
  rcases hk with rfl | rfl | rfl | ⟨k0, k1, k2⟩
  · rcases hn with rfl | n0
    · rcases hte with rfl | ⟨t0, t1⟩
      · go_enter Tryd.func30, Tryd.ntmps30
        go_wp2_with fail
        go_ret
        exact ⟨ret_bool (by rw [← HR.out]; decide), (Below.refl _ _).alloc (Nat.le_refl _) _⟩
      · have H := Lib.hid t1; clear t1 hno
        go_enter Tryd.func30, Tryd.ntmps30
        go_wp2_with fail
        go_ret
        exact ⟨ret_bool (by rw [← HR.out]; simp [rightF, H.out]), (Below.refl _ _).alloc (Nat.le_refl _) _⟩
    · have H := Lib.hid (hno _ _ 0 n0); clear hte hno
      go_enter Tryd.func30, Tryd.ntmps30
      go_wp2_with fail
      go_ret
      exact ⟨ret_bool (by rw [← HR.out]; simp [rightF, H.out]), (Below.refl _ _).alloc (Nat.le_refl _) _⟩
  · clear hn hno
    rcases hte with rfl | ⟨t0, t1⟩
    · go_enter Tryd.func30, Tryd.ntmps30
      go_wp2_with fail
      go_ret
      exact ⟨ret_bool (by rw [← HR.out]; simp [rightF]; rfl), (Below.refl _ _).alloc (Nat.le_refl _) _⟩
    · have H := Lib.hid t1; clear t1
      go_enter Tryd.func30, Tryd.ntmps30
      go_wp2_with fail
      go_ret
      exact ⟨ret_bool (by rw [← HR.out]; simp [rightF, H.out]), (Below.refl _ _).alloc (Nat.le_refl _) _⟩
  · clear hte
    rcases hn with rfl | n0
    · clear hno
      go_enter Tryd.func30, Tryd.ntmps30
      go_wp2_with fail
      go_ret
      exact ⟨ret_bool (by rw [← HR.out]; simp [rightF]), (Below.refl _ _).alloc (Nat.le_refl _) _⟩
    · have H := Lib.hid (hno _ _ 0 n0); clear hno
      go_enter Tryd.func30, Tryd.ntmps30
      go_wp2_with fail
      go_ret
      exact ⟨ret_bool (by rw [← HR.out]; simp [rightF, H.out]), (Below.refl _ _).alloc (Nat.le_refl _) _⟩
  · have H0 := Lib.hid (hno _ _ 0 k0); have H1 := Lib.hid (hno _ _ 0 k1); have H2 := Lib.hid (hno _ _ 0 k2)
    clear hte hn hno
    go_enter Tryd.func30, Tryd.ntmps30
    go_wp2_with fail
    go_ret
    exact ⟨ret_bool (by rw [← HR.out]; simp [rightF, H0.out, H1.out, H2.out]), (Below.refl _ _).alloc (Nat.le_refl _) _⟩

theorem cmpB_step {a b : List UInt8} {k : Nat} (h1 : k < a.length) (h2 : k < b.length) : cmpB (a.drop k) (b.drop k) = if a[k] < b[k] then -1 else if b[k] < a[k] then 1 else cmpB (a.drop (k + 1)) (b.drop (k + 1)) := by
  rw [List.drop_eq_getElem_cons h1, List.drop_eq_getElem_cons h2, cmpB]
theorem below_draws {w W : World} {m : Nat} (h : Below w.heap.size w W) : Below w.heap.size w (W.drewN m) := h.trans ⟨rfl, rfl, rfl, Nat.le_refl _, fun _ _ => rfl⟩

set_option maxRecDepth 100000 in
set_option maxHeartbeats 1000000 in
theorem refCompare_any (a b : KeyD) (ha : a.text.size ≤ 4194304) (hb : b.text.size ≤ 4194304) (w : World) : Calls Tryd.prog 31 #[a.v, b.v] w (IntB (cmpF a b) w) := by
  obtain ⟨R, hR⟩ : ∃ R, cmpF a b = R := ⟨_, rfl⟩
  rw [hR]
  have B2 : Hid (Below w.heap.size w ((w.alloc (.cells #[.int .i64 a.kind, .int .i64 a.num, .string a.text] 35)).alloc (.cells #[.int .i64 b.kind, .int .i64 b.num, .string b.text] 35))) := Lib.hid (((Below.refl _ _).alloc (Nat.le_refl _) _).alloc (by simp) _)
  rcases int_tri a.kind b.kind with h1 | h1 | h1
  · have HR : Hid (R = -1) := Lib.hid (by rw [← hR, cmpF_kind_lt h1])
    have hn : (a.kind != b.kind) = true := by rw [bne_iff_ne]; omega
    clear hR
    obtain ⟨k1, n1, t1⟩ := a
    obtain ⟨k2, n2, t2⟩ := b
    unfold KeyD.v
    dsimp only at *
    go_enter Tryd.func31, Tryd.ntmps31
    go_wp2_with fail
    go_ret
    exact ⟨ret_int HR.out.symm, B2.out⟩
  · rcases int_tri a.num b.num with h2 | h2 | h2
    · have HR : Hid (R = -1) := Lib.hid (by rw [← hR, cmpF_num_lt h1 h2])
      have hn : (a.num != b.num) = true := by rw [bne_iff_ne]; omega
      clear hR
      obtain ⟨k1, n1, t1⟩ := a
      obtain ⟨k2, n2, t2⟩ := b
      unfold KeyD.v
      dsimp only at *
      subst h1
      go_enter Tryd.func31, Tryd.ntmps31
      go_wp2_with fail
      go_ret
      exact ⟨ret_int HR.out.symm, B2.out⟩
    · have HR : Hid (cmpB a.text.data.toList b.text.data.toList = R) := Lib.hid (by rw [← hR, cmpF_text h1 h2])
      clear hR
      obtain ⟨k1, n1, t1⟩ := a
      obtain ⟨k2, n2, t2⟩ := b
      unfold KeyD.v
      dsimp only at *
      subst h1 h2
      have HL : Hid (t1.data.toList.length = t1.size ∧ t2.data.toList.length = t2.size) := Lib.hid ⟨by simp, by simp⟩
      go_enter Tryd.func31, Tryd.ntmps31
      go_wp2_with fail
      obtain ⟨W, hW⟩ : ∃ W : World, W = (w.alloc (.cells #[.int .i64 k1, .int .i64 n1, .string t1] 35)).alloc (.cells #[.int .i64 k1, .int .i64 n1, .string t2] 35) := ⟨_, rfl⟩
      rw [← hW] at B2 ⊢
      have a2 : W.cell? ⟨w.heap.size, 2, none⟩ = some (.string t1) := by rw [hW]; go_simp
      have b2 : W.cell? ⟨w.heap.size + 1, 2, none⟩ = some (.string t2) := by rw [hW]; go_simp
      clear hW
      go_loopw [5] (fun i wr => ∃ k m : Nat, k ≤ t1.size ∧ k ≤ t2.size ∧ i = .int .i64 k ∧ Hid (cmpB (t1.data.toList.drop k) (t2.data.toList.drop k) = R) ∧ wr = W.drewN m) (fun i _ => t1.size - (intOf i).toNat)
      case atStart => exact ⟨0, 0, by omega, by omega, rfl, HR, rfl⟩
      case round =>
        obtain ⟨k, m, hk1, hk2, rfl, HE, rfl⟩ := hrel
        by_cases hlt1 : k < t1.size
        · by_cases hlt2 : k < t2.size
          · have hs := cmpB_step (a := t1.data.toList) (b := t2.data.toList) (k := k) (by have := HL.out; omega) (by have := HL.out; omega)
            have e1 : t1.data.toList[k]'(by have := HL.out; omega) = t1[k] := rfl
            have e2 : t2.data.toList[k]'(by have := HL.out; omega) = t2[k] := rfl
            rw [e1, e2, HE.out] at hs
            clear e1 e2
            rcases u8_tri t1[k] t2[k] with h | h | h
            · have HZ : Hid (R = -1) := Lib.hid (by rw [hs, if_pos h])
              have h5 := UInt8.lt_iff_toNat_lt.1 h
              clear hs h
              go_wp2_with fail
              go_quiet (fail)
              go_wp2_with fail
              go_ret
              exact ⟨ret_int HZ.out.symm, (by repeat (first | exact B2.out | apply below_draws))⟩
            · have HZ : Hid (cmpB (t1.data.toList.drop (k + 1)) (t2.data.toList.drop (k + 1)) = R) := Lib.hid (by rw [hs, h, if_neg (UInt8.lt_irrefl _), if_neg (UInt8.lt_irrefl _)])
              have h5 : t1[k].toNat = t2[k].toNat := by rw [h]
              have h6 : decide (t1[k].toNat < t2[k].toNat) = false := by rw [decide_eq_false_iff_not]; omega
              have h7 : decide (t2[k].toNat < t1[k].toNat) = false := by rw [decide_eq_false_iff_not]; omega
              clear hs h h5
              go_wp2_with fail
              go_quiet (fail)
              go_wp2_with fail
              go_quiet (fail)
              go_wp2_with fail
              go_roundw
              case rel => exact ⟨k + 1, _, by omega, by omega, by go_num, HZ, by first | rfl | (simp only [World.drewN_drewN]; rfl)⟩
              case measure => simp [intOf]; omega
            · have HZ : Hid (R = 1) := Lib.hid (by rw [hs, if_neg (u8_asymm h), if_pos h])
              have h5 := UInt8.lt_iff_toNat_lt.1 h
              have h6 : decide (t1[k].toNat < t2[k].toNat) = false := by rw [decide_eq_false_iff_not]; omega
              clear hs h
              go_wp2_with fail
              go_quiet (fail)
              go_wp2_with fail
              go_quiet (fail)
              go_wp2_with fail
              go_ret
              exact ⟨ret_int HZ.out.symm, (by repeat (first | exact B2.out | apply below_draws))⟩
          · obtain rfl : k = t2.size := by omega
            have HZ : Hid (R = 1) := Lib.hid (by
              have hd : t2.data.toList.drop t2.size = [] := List.drop_eq_nil_of_le (by have := HL.out; omega)
              rw [← HE.out, hd, List.drop_eq_getElem_cons (by have := HL.out; omega)]; rfl)
            go_wp2_with fail
            go_ret
            exact ⟨ret_int HZ.out.symm, (by repeat (first | exact B2.out | apply below_draws))⟩
        · obtain rfl : k = t1.size := by omega
          by_cases hlt2 : t1.size < t2.size
          · have HZ : Hid (R = -1) := Lib.hid (by
              have hd : t1.data.toList.drop t1.size = [] := List.drop_eq_nil_of_le (by have := HL.out; omega)
              rw [← HE.out, hd, List.drop_eq_getElem_cons (by have := HL.out; omega)]; rfl)
            go_wp2_with fail
            go_ret
            exact ⟨ret_int HZ.out.symm, (by repeat (first | exact B2.out | apply below_draws))⟩
          · have HZ : Hid (R = 0) := Lib.hid (by
              have hd : t1.data.toList.drop t1.size = [] := List.drop_eq_nil_of_le (by have := HL.out; omega)
              have hd2 : t2.data.toList.drop t1.size = [] := List.drop_eq_nil_of_le (by have := HL.out; omega)
              rw [← HE.out, hd, hd2]; rfl)
            go_wp2_with fail
            go_ret
            exact ⟨ret_int HZ.out.symm, (by repeat (first | exact B2.out | apply below_draws))⟩
    · have HR : Hid (R = 1) := Lib.hid (by rw [← hR, cmpF_num_gt h1 h2])
      have hn : (a.num != b.num) = true := by rw [bne_iff_ne]; omega
      have hn2 : decide (a.num < b.num) = false := by rw [decide_eq_false_iff_not]; omega
      clear hR
      obtain ⟨k1, n1, t1⟩ := a
      obtain ⟨k2, n2, t2⟩ := b
      unfold KeyD.v
      dsimp only at *
      subst h1
      go_enter Tryd.func31, Tryd.ntmps31
      go_wp2_with fail
      go_ret
      exact ⟨ret_int HR.out.symm, B2.out⟩
  · have HR : Hid (R = 1) := Lib.hid (by rw [← hR, cmpF_kind_gt h1])
    have hn : (a.kind != b.kind) = true := by rw [bne_iff_ne]; omega
    have hn2 : decide (a.kind < b.kind) = false := by rw [decide_eq_false_iff_not]; omega
    clear hR
    obtain ⟨k1, n1, t1⟩ := a
    obtain ⟨k2, n2, t2⟩ := b
    unfold KeyD.v
    dsimp only at *
    go_enter Tryd.func31, Tryd.ntmps31
    go_wp2_with fail
    go_ret
    exact ⟨ret_int HR.out.symm, B2.out⟩

set_option maxRecDepth 100000 in
set_option maxHeartbeats 1000000 in
theorem refRows_any (ao bo : Option Addr) (c d : Nat) (xs ys : List KeyD) (w : World) (ha : Reads w w.heap.size 3 ao xs.length (keyCells xs)) (hb : Reads w w.heap.size 3 bo ys.length (keyCells ys)) (hla : xs.length ≤ 4194304) (hlb : ys.length ≤ 4194304) (hta : ∀ k ∈ xs, k.text.size ≤ 4194304) (htb : ∀ k ∈ ys, k.text.size ≤ 4194304) :
    Calls Tryd.prog 27 #[.slice ao xs.length c, .slice bo ys.length d] w (IntB (rowsF xs ys) w) := by
  have HA := Lib.hid ha; have HB := Lib.hid hb; have HTA := Lib.hid hta; have HTB := Lib.hid htb
  clear ha hb hta htb
  obtain ⟨R, hR⟩ : ∃ R, rowsF xs ys = R := ⟨_, rfl⟩
  rw [hR]
  have HR := Lib.hid hR; clear hR
  go_enter Tryd.func27, Tryd.ntmps27
  go_wp2_with fail
  go_loopw [5] (fun i wr => ∃ k : Nat, k ≤ xs.length ∧ k ≤ ys.length ∧ i = .int .i64 k ∧ Hid (rowsF (xs.drop k) (ys.drop k) = R) ∧ Hid (Below w.heap.size w wr)) (fun i _ => xs.length - (intOf i).toNat)
  case atStart => exact ⟨0, by omega, by omega, rfl, Lib.hid HR.out, Lib.hid (Below.refl _ _)⟩
  case round =>
    obtain ⟨k, hk, hk2, rfl, HE, HW⟩ := hrel
    by_cases hlt : k < xs.length
    · by_cases hlt2 : k < ys.length
      · obtain ⟨ad, rfl, hba, a0, a1, a2⟩ := reads_key HA.out hlt
        rw [← HW.out.cell (by rw [block_of_add]; exact hba)] at a0
        rw [← HW.out.cell (by show (ad.add (k * 3)).block < _; rw [block_of_add]; exact hba)] at a1 a2
        obtain ⟨bd, rfl, hbb, b0, b1, b2⟩ := reads_key HB.out hlt2
        have HS := Lib.hid (rowsF_step hlt hlt2)
        rw [← HW.out.cell (by rw [block_of_add]; exact hbb)] at b0
        rw [← HW.out.cell (by show (bd.add (k * 3)).block < _; rw [block_of_add]; exact hbb)] at b1 b2
        have hC : ∀ W, Calls Tryd.prog 31 #[xs[k].v, ys[k].v] W (IntB (cmpF xs[k] ys[k]) W) := fun W => refCompare_any _ _ (HTA.out _ (List.getElem_mem hlt)) (HTB.out _ (List.getElem_mem hlt2)) W
        generalize hx : xs[k] = x at *
        generalize hy : ys[k] = y at *
        clear hx hy
        obtain ⟨z, hz⟩ : ∃ z, cmpF x y = z := ⟨_, rfl⟩
        rw [hz] at hC HS
        clear hz
        obtain ⟨k1, n1, t1⟩ := x
        obtain ⟨k2, n2, t2⟩ := y
        unfold KeyD.v at hC
        dsimp only at a0 a1 a2 b0 b1 b2 hC
        have HC := Lib.hid hC
        clear hC
        have HZE : Hid (z = 0 → rowsF (xs.drop (k + 1)) (ys.drop (k + 1)) = R) := Lib.hid (fun h => by rw [← HE.out, HS.out, h]; rfl)
        have HZN : Hid (¬ z = 0 → z = R) := Lib.hid (fun h => by rw [← HE.out, HS.out, if_pos h])
        clear HS HE
        go_upto_region 4 with fail
        have hBW : Below w.heap.size w ({ wr with drawn := wr.drawn + 1 } : World) := HW.out.trans ⟨rfl, rfl, rfl, Nat.le_refl _, fun _ _ => rfl⟩
        have A0 : ({ wr with drawn := wr.drawn + 1 } : World).cell? (ad.add (k * 3)) = some (.int .i64 k1) := a0
        have A1 : ({ wr with drawn := wr.drawn + 1 } : World).cell? ⟨(ad.add (k * 3)).block, (ad.add (k * 3)).off + 1, none⟩ = some (.int .i64 n1) := a1
        have A2 : ({ wr with drawn := wr.drawn + 1 } : World).cell? ⟨(ad.add (k * 3)).block, (ad.add (k * 3)).off + 2, none⟩ = some (.string t1) := a2
        have B0 : ({ wr with drawn := wr.drawn + 1 } : World).cell? (bd.add (k * 3)) = some (.int .i64 k2) := b0
        have B1 : ({ wr with drawn := wr.drawn + 1 } : World).cell? ⟨(bd.add (k * 3)).block, (bd.add (k * 3)).off + 1, none⟩ = some (.int .i64 n2) := b1
        have B2 : ({ wr with drawn := wr.drawn + 1 } : World).cell? ⟨(bd.add (k * 3)).block, (bd.add (k * 3)).off + 2, none⟩ = some (.string t2) := b2
        clear a0 a1 a2 b0 b1 b2 HW
        refine wp_region_still_tail 8 (by kernel_rfl) (by kernel_rfl) ?_
        simp only [List.take_succ_cons, List.take_zero, List.drop_succ_cons, List.drop_zero]
        generalize ({ wr with drawn := wr.drawn + 1 } : World) = W at *
        repeat still_step
        refine wpStill_nil ?_
        change wpList _ _ _ _ _ _
        have HBW := Lib.hid hBW; clear hBW
        clear A0 A1 A2 B0 B1 B2
        go_wp2_with fail
        refine (HC.out _).mono ?_
        rintro e W2 ⟨rfl, bW⟩
        have BW : Hid (Below w.heap.size w W2) := Lib.hid (HBW.out.trans (bW.mono HBW.out.size))
        clear bW
        by_cases hz : z = 0
        · have HZ := Lib.hid (HZE.out hz)
          subst hz
          go_wp2_with fail
          go_roundw
          case rel => exact ⟨k + 1, by omega, by omega, by go_num, HZ, BW⟩
          case measure => simp [intOf]; omega
        · have HZ := Lib.hid (HZN.out hz)
          have bz : (z != 0) = true := by rw [bne_iff_ne]; exact hz
          clear hz
          go_wp2_with fail
          go_ret
          exact ⟨ret_int HZ.out, BW.out⟩
      · obtain rfl : k = ys.length := by omega
        have HZ : Hid ((1 : Int) = R) := Lib.hid (by
          rw [← HE.out, List.drop_length, List.drop_eq_getElem_cons hlt]; rfl)
        go_wp2_with fail
        go_ret
        exact ⟨ret_int HZ.out, HW.out⟩
    · obtain rfl : k = xs.length := by omega
      by_cases hlt2 : xs.length < ys.length
      · have HZ : Hid ((-1 : Int) = R) := Lib.hid (by
          rw [← HE.out, List.drop_length, List.drop_eq_getElem_cons hlt2]; rfl)
        go_wp2_with fail
        go_ret
        exact ⟨ret_int HZ.out, HW.out⟩
      · have HZ : Hid ((0 : Int) = R) := Lib.hid (by
          rw [← HE.out, List.drop_length, show ys.drop xs.length = [] from List.drop_eq_nil_of_le (by omega)]; rfl)
        go_wp2_with fail
        go_ret
        exact ⟨ret_int HZ.out, HW.out⟩
end Go.Proofs.YtebagmiclfhelaaDoor.OrdLib
