/- Contract: the document's 'Next', at every text and place: it answers what the program's does. -/
import Derived.Test.YtinmiekbhoemjaaGreatDoorPack20
import Derived.Deep.QuietTactic
import Derived.BigQuiet
import Derived.Deep.RegionHeld3
set_option linter.unusedVariables false
namespace Go.Proofs.YtinmiekbhoemjaaGreatDoor.FoldNext
open Go.RowKit Go.Lib FoldP FoldInts Kit FoldForms

theorem byte_first (s : ByteArray) (k : Nat) (h : k < s.size) (j : Nat) (hj : k + j < s.size) : (s.data.toList.drop k).getD j 0 = s[k + j] := by
  simp [List.getD, List.getElem?_drop, hj]; rfl

/-- One odd byte. -/
theorem next_mk {s : ByteArray} {k : Nat} {w w' : World} {r : Int} {n : Nat} {d : Nat × Nat} (h : k < s.size) (hd : decodeL (s.data.toList.drop k) = d) (h1 : (d.1 : Int) = r) (h2 : d.2 = n) (hb : Below w.heap.size w w') :
    NextRet s.data.toList k w (.returned (.tuple #[.int .i32 r, .int .i64 n])) w' := by
  refine ⟨?_, hb⟩
  rw [next_in _ k (by simpa using h), hd, h1, h2]

theorem quiet_bool {P : Program} {f : FuncId} {args : Array Value} {w : World} (n : Nat) {b : Bool} (h : Calls P f args (w.drewN n) (BoolRet b (w.drewN n))) :
    Calls P f args (w.drewN n) fun e w'' => e = .returned (.bool b) ∧ ∃ m, w'' = w.drewN m :=
  h.mono fun _ _ ⟨he, hm⟩ => ⟨he, n, hm.symm⟩
theorem and63 (x : UInt8) : bits BinOp.and IntKind.u8 (x.toNat : Int) 63 = ((x.toNat % 64 : Nat) : Int) := by
  have h := x.toNat_lt
  have e1 : (BitVec.ofInt 8 (x.toNat : Int) &&& BitVec.ofInt 8 63).toNat = x.toNat % 64 := by
    have h1 : (BitVec.ofInt 8 63).toNat = 2 ^ 6 - 1 := by decide
    rw [BitVec.toNat_and, h1, Nat.and_two_pow_sub_one_eq_mod, BitVec.ofInt_natCast, BitVec.toNat_ofNat]
    omega
  show IntKind.u8.wrap ((BitVec.ofInt 8 (x.toNat : Int) &&& BitVec.ofInt 8 63).toNat : Int) = _
  rw [e1]
  have h2 : x.toNat % 64 < 64 := by omega
  generalize x.toNat % 64 = y at *
  unfold IntKind.wrap
  simp [IntKind.bits, IntKind.signed]
  omega

theorem acc_step (s : ByteArray) (k j : Nat) (r0 : Int) (h : k < s.size) (hj : k + (j + 1) < s.size) :
    acc (s.data.toList.drop k) r0 (j + 1) = acc (s.data.toList.drop k) r0 j * 64 + ((s[k + (j + 1)].toNat % 64 : Nat) : Int) := by
  rw [acc, byte_first s k h (j + 1) hj]

theorem leaf_ne {s : ByteArray} {k n : Nat} {a : Int} (h : (!(str (encodeRune a)).toList == (s.extract k (k + n)).toList) = true) : good (s.data.toList.drop k) a n = false := by
  unfold good
  have e1 : (str (encodeRune a)).toList = encodeRune a := ByteArray.toList_mk _
  rw [e1, extract_toList, show k + n - k = n by omega] at h
  simp only [Bool.not_eq_true', beq_eq_false_iff_ne] at h
  rw [decide_eq_false h, Bool.and_false]
theorem leaf_eq {s : ByteArray} {k n : Nat} {a : Int} (hv : Lib.validRune a = true) (h : (!(str (encodeRune a)).toList == (s.extract k (k + n)).toList) = false) : good (s.data.toList.drop k) a n = true := by
  unfold good
  have e1 : (str (encodeRune a)).toList = encodeRune a := ByteArray.toList_mk _
  rw [e1, extract_toList, show k + n - k = n by omega] at h
  simp only [Bool.not_eq_false', beq_iff_eq] at h
  rw [hv, decide_eq_true h]; rfl
theorem leaf_bad {s : ByteArray} {k n : Nat} {a : Int} (hv : Lib.validRune a = false) : good (s.data.toList.drop k) a n = false := by
  unfold good; rw [hv, Bool.false_and]

set_option maxRecDepth 100000 in
set_option maxHeartbeats 2000000 in
theorem refNext_2 (s : ByteArray) (k : Nat) (w : World) (hs : s.size ≤ 9223372036854775807) (h1 : k < s.size) (ha : 192 ≤ s[k].toNat) (hb : s[k].toNat < 224) :
    Calls Tryz.prog 78 #[.string s, .int .i64 k] w (NextRet s.data.toList k w) := by
  have hb0 := byte_first s k h1 0 (by omega)
  simp only [Nat.add_zero] at hb0
  have HB0 := Lib.hid hb0; clear hb0
  have ha' : (192 : Int) ≤ s[k].toNat := by omega
  have hb' : (s[k].toNat : Int) < 224 := by omega
  have hk0 : (0 : Int) ≤ k := by omega
  have hkb : decide ((k : Int) < 0) = false := by simp
  have hsb : decide (s.size ≤ k) = false := by simp; omega
  have hbb : decide ((s[k].toNat : Int) < 128) = false := by simp; omega
  by_cases hn : s.size - k < 2
  · go_enter Tryz.func78, Tryz.ntmps78
    go_wp2_with fail
    go_ret2
    go_light
    exact next_mk h1 (dec_short _ 2 (by rw [HB0.out]; omega) (by simp; omega)) rfl rfl (Below.refl _ _)
  have hacc := dec_two (s.data.toList.drop k) (by rw [HB0.out]; exact ⟨ha, hb⟩) (by simp; omega)
  rw [HB0.out] at hacc
  have HACC := Lib.hid hacc; clear hacc
  go_enter Tryz.func78, Tryz.ntmps78
  go_wp2_with fail
  go_loop [8, 9] (fun r i => ∃ j : Nat, j + 1 ≤ 2 ∧ i = .int .i64 ((j : Int) + 1) ∧ ∃ a : Int, 0 ≤ a ∧ a + 1 ≤ 32 * 64 ^ j ∧ r = .int .i32 a ∧ Hid (a = acc (s.data.toList.drop k) ((s[k].toNat : Int) - 192) j)) (fun _ i => 8 - (RowKit.intOf i).toNat)
  case atStart => exact ⟨0, by omega, rfl, _, by omega, by omega, rfl, Lib.hid rfl⟩
  case round =>
    obtain ⟨j, hj, rfl, a, ha0, ha1, rfl, HA⟩ := hrel
    by_cases hlt : j + 1 < 2
    · have hp1 : a ≤ 131072 := by
        have : j = 0 ∨ j = 1 ∨ j = 2 := by omega
        rcases this with rfl | rfl | rfl <;> omega
      have HA1 := Lib.hid ha1; clear ha1
      have e63 := and63 s[k + (j + 1)]
      have hs63 : s[k + (j + 1)].toNat % 64 < 64 := by omega
      have HSTEP := Lib.hid (acc_step s k j ((s[k].toNat : Int) - 192) h1 (by omega))
      go_wp2_with fail
      go_round
      case rel =>
        go_light
        refine ⟨j + 1, by omega, by go_num, _, ?_, ?_, rfl, Lib.hid ?_⟩
        · omega
        · have hh := HA1.out
          have h64 : (64 : Int) ^ (j + 1) = 64 ^ j * 64 := Int.pow_succ 64 j
          rw [h64]
          generalize (64 : Int) ^ j = y at *
          omega
        · rw [HSTEP.out, ← HA.out]; rfl
      case measure => simp [RowKit.intOf]; omega
    · obtain rfl : j = 1 := by omega
      cases hv : Lib.validRune a
      · have HC := Lib.hid (fun n => quiet_bool (w := w) n (hv ▸ refRune_any a (w.drewN n)))
        have HV := Lib.hid hv
        clear hv
        go_wp2_with fail
        go_quiet ((go_at_call 98; exact HC.out _))
        go_wp2_with fail
        go_ret2
        go_light
        have hg : good (s.data.toList.drop k) a 2 = false := leaf_bad HV.out
        rw [HA.out] at hg
        exact next_mk h1 (HACC.out.2 hg) rfl rfl (below_drewN (Below.refl _ _) _)
      · have HC := Lib.hid (fun W => hv ▸ refRune_any a W)
        have HV := Lib.hid hv
        clear hv
        go_wp2_with fail
        have q1 : IntKind.i64.wrap ((k : Int) + 2) = (k : Int) + 2 := IntWalk.i64_in _ (by omega)
        have q2 : (0 : Int) ≤ (k : Int) + 2 := by omega
        have q3 : ((k : Int) + 2).toNat = k + 2 := by omega
        have q4 : (k : Int) ≤ (k : Int) + 2 := by omega
        have q5 : (k : Int) + 2 ≤ s.size := by omega
        refine wp_region_held_drew (S := fun _ => True) (by kernel_rfl) trivial (fun _ => ?_)
        refine' wpAnyH_take (i := 0) (v := _) (by simp only [List.getElem?_toArray, List.getElem?_cons_zero]; rfl) (by kernel_rfl) (by kernel_rfl) (by kernel_rfl) (by exact fun _ _ _ h => h) (Or.inl ⟨by rfl, ?hy0⟩) trivial ?rest0
        case hy0 => intro w hSw; clear hSw; go_simp; try with_reducible rfl
        try simp only [Act.put, List.setIfInBounds_toArray, List.set_cons_zero, List.set_cons_succ]
        refine wpAnyH_ready (rs := [1]) (by kernel_rfl) (by simp) ?_
        refine' AllReadyH.cons (by simp only [List.getElem?_toArray, List.getElem?_cons_succ, List.getElem?_cons_zero]; rfl) (fun K hK => ?_) AllReadyH.nil
        go_simp
        refine (HC.out _).mono ?_
        rintro e w' ⟨rfl, rfl⟩
        go_simp
        refine hK.out _ _ trivial (fun _ => ?_)
        try simp only [Act.put, List.setIfInBounds_toArray, List.set_cons_zero, List.set_cons_succ]
        refine' wpAnyH_take (i := 2) (v := _) (by simp only [List.getElem?_toArray, List.getElem?_cons_succ, List.getElem?_cons_zero]; rfl) (by kernel_rfl) (by kernel_rfl) (by kernel_rfl) (by exact fun _ _ _ h => h) (Or.inl ⟨by rfl, ?hy2⟩) trivial ?rest2
        case hy2 => intro w hSw; clear hSw; go_simp; try with_reducible rfl
        try simp only [Act.put, List.setIfInBounds_toArray, List.set_cons_zero, List.set_cons_succ]
        refine' wpAnyH_take (i := 3) (v := _) (by simp only [List.getElem?_toArray, List.getElem?_cons_succ, List.getElem?_cons_zero]; rfl) (by kernel_rfl) (by kernel_rfl) (by kernel_rfl) (by exact fun _ _ _ h => h) (Or.inl ⟨by rfl, ?hy3⟩) trivial ?rest3
        case hy3 => intro w hSw; clear hSw; go_simp; try with_reducible rfl
        try simp only [Act.put, List.setIfInBounds_toArray, List.set_cons_zero, List.set_cons_succ]
        refine' wpAnyH_take (i := 4) (v := _) (by simp only [List.getElem?_toArray, List.getElem?_cons_succ, List.getElem?_cons_zero]; rfl) (by kernel_rfl) (by kernel_rfl) (by kernel_rfl) (by exact fun _ _ _ h => h) (Or.inl ⟨by rfl, ?hy4⟩) trivial ?rest4
        case hy4 => intro w hSw; clear hSw; go_simp; try with_reducible rfl
        try simp only [Act.put, List.setIfInBounds_toArray, List.set_cons_zero, List.set_cons_succ]
        refine' wpAnyH_take (i := 7) (v := _) (by simp only [List.getElem?_toArray, List.getElem?_cons_succ, List.getElem?_cons_zero]; rfl) (by kernel_rfl) (by kernel_rfl) (by kernel_rfl) (by exact fun _ _ _ h => h) (Or.inl ⟨by rfl, ?hy7⟩) trivial ?rest7
        case hy7 => intro w hSw; clear hSw; go_simp; try with_reducible rfl
        try simp only [Act.put, List.setIfInBounds_toArray, List.set_cons_zero, List.set_cons_succ]
        refine' wpAnyH_take (i := 8) (v := _) (by simp only [List.getElem?_toArray, List.getElem?_cons_succ, List.getElem?_cons_zero]; rfl) (by kernel_rfl) (by kernel_rfl) (by kernel_rfl) (by exact fun _ _ _ h => h) (Or.inl ⟨by rfl, ?hy8⟩) trivial ?rest8
        case hy8 => intro w hSw; clear hSw; go_simp; try with_reducible rfl
        try simp only [Act.put, List.setIfInBounds_toArray, List.set_cons_zero, List.set_cons_succ]
        refine' wpAnyH_take (i := 9) (v := _) (by simp only [List.getElem?_toArray, List.getElem?_cons_succ, List.getElem?_cons_zero]; rfl) (by kernel_rfl) (by kernel_rfl) (by kernel_rfl) (by exact fun _ _ _ h => h) (Or.inl ⟨by rfl, ?hy9⟩) trivial ?rest9
        case hy9 => intro w hSw; clear hSw; go_simp; try with_reducible rfl
        try simp only [Act.put, List.setIfInBounds_toArray, List.set_cons_zero, List.set_cons_succ]
        refine' wpAnyH_take (i := 10) (v := _) (by simp only [List.getElem?_toArray, List.getElem?_cons_succ, List.getElem?_cons_zero]; rfl) (by kernel_rfl) (by kernel_rfl) (by kernel_rfl) (by exact fun _ _ _ h => h) (Or.inl ⟨by rfl, ?hy10⟩) trivial ?rest10
        case hy10 => intro w hSw; clear hSw; go_simp; try with_reducible rfl
        try simp only [Act.put, List.setIfInBounds_toArray, List.set_cons_zero, List.set_cons_succ]
        refine' wpAnyH_take (i := 11) (v := _) (by simp only [List.getElem?_toArray, List.getElem?_cons_succ, List.getElem?_cons_zero]; rfl) (by kernel_rfl) (by kernel_rfl) (by kernel_rfl) (by exact fun _ _ _ h => h) (Or.inl ⟨by rfl, ?hy11⟩) trivial ?rest11
        case hy11 => intro w hSw; clear hSw; go_simp; try with_reducible rfl
        try simp only [Act.put, List.setIfInBounds_toArray, List.set_cons_zero, List.set_cons_succ]
        refine' wpAnyH_take (i := 12) (v := _) (by simp only [List.getElem?_toArray, List.getElem?_cons_succ, List.getElem?_cons_zero]; rfl) (by kernel_rfl) (by kernel_rfl) (by kernel_rfl) (by exact fun _ _ _ h => h) (Or.inl ⟨by rfl, ?hy12⟩) trivial ?rest12
        case hy12 => intro w hSw; clear hSw; go_simp; try with_reducible rfl
        try simp only [Act.put, List.setIfInBounds_toArray, List.set_cons_zero, List.set_cons_succ]
        refine wpAnyH_ready (rs := [5]) (by kernel_rfl) (by simp) ?_
        refine' AllReadyH.cons (by simp only [List.getElem?_toArray, List.getElem?_cons_succ, List.getElem?_cons_zero]; rfl) (fun K hK => ?_) AllReadyH.nil
        go_simp
        refine (refForm_any a _ HV.out).mono ?_
        rintro e w1 ⟨v, rfl, hown, hb⟩
        have hcv := run_convert_own (P := Tryz.prog) w1 97 9 5 Tryz.underlying97 Tryz.underlying5 Tryz.underlying9 rfl hown
        have HB := Lib.hid hb
        clear hown hb
        go_simp
        refine hK.out _ _ trivial (fun _ => ?_)
        try simp only [Act.put, List.setIfInBounds_toArray, List.set_cons_zero, List.set_cons_succ]
        refine wpAnyH_ready (rs := [6]) (by kernel_rfl) (by simp) ?_
        refine' AllReadyH.cons (by simp only [List.getElem?_toArray, List.getElem?_cons_succ, List.getElem?_cons_zero]; rfl) (fun K hK => ?_) AllReadyH.nil
        go_simp
        refine hK.out _ _ trivial (fun _ => ?_)
        try simp only [Act.put, List.setIfInBounds_toArray, List.set_cons_zero, List.set_cons_succ]
        refine' wpAnyH_take (i := 13) (v := _) (by simp only [List.getElem?_toArray, List.getElem?_cons_succ, List.getElem?_cons_zero]; rfl) (by kernel_rfl) (by kernel_rfl) (by kernel_rfl) (by exact fun _ _ _ h => h) (Or.inl ⟨by rfl, ?hy13⟩) trivial ?rest13
        case hy13 => intro w hSw; clear hSw; go_simp; try with_reducible rfl
        try simp only [Act.put, List.setIfInBounds_toArray, List.set_cons_zero, List.set_cons_succ]
        refine' wpAnyH_take (i := 14) (v := _) (by simp only [List.getElem?_toArray, List.getElem?_cons_succ, List.getElem?_cons_zero]; rfl) (by kernel_rfl) (by kernel_rfl) (by kernel_rfl) (by exact fun _ _ _ h => h) (Or.inl ⟨by rfl, ?hy14⟩) trivial ?rest14
        case hy14 => intro w hSw; clear hSw; go_simp; try with_reducible rfl
        try simp only [Act.put, List.setIfInBounds_toArray, List.set_cons_zero, List.set_cons_succ]
        refine wpAnyH_done (by kernel_rfl) ?_ _
        go_wp2_with fail
        · go_ret2
          go_light
          have hg : good (s.data.toList.drop k) a 2 = false := leaf_ne ‹_›
          rw [HA.out] at hg
          exact next_mk h1 (HACC.out.2 hg) rfl rfl ((below_drewN (Below.refl _ _) 1).trans HB.out)
        · go_ret2
          go_light
          have hg : good (s.data.toList.drop k) a 2 = true := leaf_eq HV.out ‹_›
          rw [HA.out] at hg
          have hd := HACC.out.1 hg
          exact next_mk h1 hd.1 (by rw [HA.out]; exact Int.toNat_of_nonneg hd.2) rfl ((below_drewN (Below.refl _ _) 1).trans HB.out)

set_option maxRecDepth 100000 in
set_option maxHeartbeats 2000000 in
theorem refNext_3 (s : ByteArray) (k : Nat) (w : World) (hs : s.size ≤ 9223372036854775807) (h1 : k < s.size) (ha : 224 ≤ s[k].toNat) (hb : s[k].toNat < 240) :
    Calls Tryz.prog 78 #[.string s, .int .i64 k] w (NextRet s.data.toList k w) := by
  have hb0 := byte_first s k h1 0 (by omega)
  simp only [Nat.add_zero] at hb0
  have HB0 := Lib.hid hb0; clear hb0
  have ha' : (224 : Int) ≤ s[k].toNat := by omega
  have hb' : (s[k].toNat : Int) < 240 := by omega
  have hk0 : (0 : Int) ≤ k := by omega
  have hkb : decide ((k : Int) < 0) = false := by simp
  have hsb : decide (s.size ≤ k) = false := by simp; omega
  have hbb : decide ((s[k].toNat : Int) < 128) = false := by simp; omega
  by_cases hn : s.size - k < 3
  · go_enter Tryz.func78, Tryz.ntmps78
    go_wp2_with fail
    go_ret2
    go_light
    exact next_mk h1 (dec_short _ 3 (by rw [HB0.out]; omega) (by simp; omega)) rfl rfl (Below.refl _ _)
  have hacc := dec_three (s.data.toList.drop k) (by rw [HB0.out]; exact ⟨ha, hb⟩) (by simp; omega)
  rw [HB0.out] at hacc
  have HACC := Lib.hid hacc; clear hacc
  go_enter Tryz.func78, Tryz.ntmps78
  go_wp2_with fail
  go_loop [8, 9] (fun r i => ∃ j : Nat, j + 1 ≤ 3 ∧ i = .int .i64 ((j : Int) + 1) ∧ ∃ a : Int, 0 ≤ a ∧ a + 1 ≤ 32 * 64 ^ j ∧ r = .int .i32 a ∧ Hid (a = acc (s.data.toList.drop k) ((s[k].toNat : Int) - 224) j)) (fun _ i => 8 - (RowKit.intOf i).toNat)
  case atStart => exact ⟨0, by omega, rfl, _, by omega, by omega, rfl, Lib.hid rfl⟩
  case round =>
    obtain ⟨j, hj, rfl, a, ha0, ha1, rfl, HA⟩ := hrel
    by_cases hlt : j + 1 < 3
    · have hp1 : a ≤ 131072 := by
        have : j = 0 ∨ j = 1 ∨ j = 2 := by omega
        rcases this with rfl | rfl | rfl <;> omega
      have HA1 := Lib.hid ha1; clear ha1
      have e63 := and63 s[k + (j + 1)]
      have hs63 : s[k + (j + 1)].toNat % 64 < 64 := by omega
      have HSTEP := Lib.hid (acc_step s k j ((s[k].toNat : Int) - 224) h1 (by omega))
      go_wp2_with fail
      go_round
      case rel =>
        go_light
        refine ⟨j + 1, by omega, by go_num, _, ?_, ?_, rfl, Lib.hid ?_⟩
        · omega
        · have hh := HA1.out
          have h64 : (64 : Int) ^ (j + 1) = 64 ^ j * 64 := Int.pow_succ 64 j
          rw [h64]
          generalize (64 : Int) ^ j = y at *
          omega
        · rw [HSTEP.out, ← HA.out]; rfl
      case measure => simp [RowKit.intOf]; omega
    · obtain rfl : j = 2 := by omega
      cases hv : Lib.validRune a
      · have HC := Lib.hid (fun n => quiet_bool (w := w) n (hv ▸ refRune_any a (w.drewN n)))
        have HV := Lib.hid hv
        clear hv
        go_wp2_with fail
        go_quiet ((go_at_call 98; exact HC.out _))
        go_wp2_with fail
        go_ret2
        go_light
        have hg : good (s.data.toList.drop k) a 3 = false := leaf_bad HV.out
        rw [HA.out] at hg
        exact next_mk h1 (HACC.out.2 hg) rfl rfl (below_drewN (Below.refl _ _) _)
      · have HC := Lib.hid (fun W => hv ▸ refRune_any a W)
        have HV := Lib.hid hv
        clear hv
        go_wp2_with fail
        have q1 : IntKind.i64.wrap ((k : Int) + 3) = (k : Int) + 3 := IntWalk.i64_in _ (by omega)
        have q2 : (0 : Int) ≤ (k : Int) + 3 := by omega
        have q3 : ((k : Int) + 3).toNat = k + 3 := by omega
        have q4 : (k : Int) ≤ (k : Int) + 3 := by omega
        have q5 : (k : Int) + 3 ≤ s.size := by omega
        refine wp_region_held_drew (S := fun _ => True) (by kernel_rfl) trivial (fun _ => ?_)
        refine' wpAnyH_take (i := 0) (v := _) (by simp only [List.getElem?_toArray, List.getElem?_cons_zero]; rfl) (by kernel_rfl) (by kernel_rfl) (by kernel_rfl) (by exact fun _ _ _ h => h) (Or.inl ⟨by rfl, ?hy0⟩) trivial ?rest0
        case hy0 => intro w hSw; clear hSw; go_simp; try with_reducible rfl
        try simp only [Act.put, List.setIfInBounds_toArray, List.set_cons_zero, List.set_cons_succ]
        refine wpAnyH_ready (rs := [1]) (by kernel_rfl) (by simp) ?_
        refine' AllReadyH.cons (by simp only [List.getElem?_toArray, List.getElem?_cons_succ, List.getElem?_cons_zero]; rfl) (fun K hK => ?_) AllReadyH.nil
        go_simp
        refine (HC.out _).mono ?_
        rintro e w' ⟨rfl, rfl⟩
        go_simp
        refine hK.out _ _ trivial (fun _ => ?_)
        try simp only [Act.put, List.setIfInBounds_toArray, List.set_cons_zero, List.set_cons_succ]
        refine' wpAnyH_take (i := 2) (v := _) (by simp only [List.getElem?_toArray, List.getElem?_cons_succ, List.getElem?_cons_zero]; rfl) (by kernel_rfl) (by kernel_rfl) (by kernel_rfl) (by exact fun _ _ _ h => h) (Or.inl ⟨by rfl, ?hy2⟩) trivial ?rest2
        case hy2 => intro w hSw; clear hSw; go_simp; try with_reducible rfl
        try simp only [Act.put, List.setIfInBounds_toArray, List.set_cons_zero, List.set_cons_succ]
        refine' wpAnyH_take (i := 3) (v := _) (by simp only [List.getElem?_toArray, List.getElem?_cons_succ, List.getElem?_cons_zero]; rfl) (by kernel_rfl) (by kernel_rfl) (by kernel_rfl) (by exact fun _ _ _ h => h) (Or.inl ⟨by rfl, ?hy3⟩) trivial ?rest3
        case hy3 => intro w hSw; clear hSw; go_simp; try with_reducible rfl
        try simp only [Act.put, List.setIfInBounds_toArray, List.set_cons_zero, List.set_cons_succ]
        refine' wpAnyH_take (i := 4) (v := _) (by simp only [List.getElem?_toArray, List.getElem?_cons_succ, List.getElem?_cons_zero]; rfl) (by kernel_rfl) (by kernel_rfl) (by kernel_rfl) (by exact fun _ _ _ h => h) (Or.inl ⟨by rfl, ?hy4⟩) trivial ?rest4
        case hy4 => intro w hSw; clear hSw; go_simp; try with_reducible rfl
        try simp only [Act.put, List.setIfInBounds_toArray, List.set_cons_zero, List.set_cons_succ]
        refine' wpAnyH_take (i := 7) (v := _) (by simp only [List.getElem?_toArray, List.getElem?_cons_succ, List.getElem?_cons_zero]; rfl) (by kernel_rfl) (by kernel_rfl) (by kernel_rfl) (by exact fun _ _ _ h => h) (Or.inl ⟨by rfl, ?hy7⟩) trivial ?rest7
        case hy7 => intro w hSw; clear hSw; go_simp; try with_reducible rfl
        try simp only [Act.put, List.setIfInBounds_toArray, List.set_cons_zero, List.set_cons_succ]
        refine' wpAnyH_take (i := 8) (v := _) (by simp only [List.getElem?_toArray, List.getElem?_cons_succ, List.getElem?_cons_zero]; rfl) (by kernel_rfl) (by kernel_rfl) (by kernel_rfl) (by exact fun _ _ _ h => h) (Or.inl ⟨by rfl, ?hy8⟩) trivial ?rest8
        case hy8 => intro w hSw; clear hSw; go_simp; try with_reducible rfl
        try simp only [Act.put, List.setIfInBounds_toArray, List.set_cons_zero, List.set_cons_succ]
        refine' wpAnyH_take (i := 9) (v := _) (by simp only [List.getElem?_toArray, List.getElem?_cons_succ, List.getElem?_cons_zero]; rfl) (by kernel_rfl) (by kernel_rfl) (by kernel_rfl) (by exact fun _ _ _ h => h) (Or.inl ⟨by rfl, ?hy9⟩) trivial ?rest9
        case hy9 => intro w hSw; clear hSw; go_simp; try with_reducible rfl
        try simp only [Act.put, List.setIfInBounds_toArray, List.set_cons_zero, List.set_cons_succ]
        refine' wpAnyH_take (i := 10) (v := _) (by simp only [List.getElem?_toArray, List.getElem?_cons_succ, List.getElem?_cons_zero]; rfl) (by kernel_rfl) (by kernel_rfl) (by kernel_rfl) (by exact fun _ _ _ h => h) (Or.inl ⟨by rfl, ?hy10⟩) trivial ?rest10
        case hy10 => intro w hSw; clear hSw; go_simp; try with_reducible rfl
        try simp only [Act.put, List.setIfInBounds_toArray, List.set_cons_zero, List.set_cons_succ]
        refine' wpAnyH_take (i := 11) (v := _) (by simp only [List.getElem?_toArray, List.getElem?_cons_succ, List.getElem?_cons_zero]; rfl) (by kernel_rfl) (by kernel_rfl) (by kernel_rfl) (by exact fun _ _ _ h => h) (Or.inl ⟨by rfl, ?hy11⟩) trivial ?rest11
        case hy11 => intro w hSw; clear hSw; go_simp; try with_reducible rfl
        try simp only [Act.put, List.setIfInBounds_toArray, List.set_cons_zero, List.set_cons_succ]
        refine' wpAnyH_take (i := 12) (v := _) (by simp only [List.getElem?_toArray, List.getElem?_cons_succ, List.getElem?_cons_zero]; rfl) (by kernel_rfl) (by kernel_rfl) (by kernel_rfl) (by exact fun _ _ _ h => h) (Or.inl ⟨by rfl, ?hy12⟩) trivial ?rest12
        case hy12 => intro w hSw; clear hSw; go_simp; try with_reducible rfl
        try simp only [Act.put, List.setIfInBounds_toArray, List.set_cons_zero, List.set_cons_succ]
        refine wpAnyH_ready (rs := [5]) (by kernel_rfl) (by simp) ?_
        refine' AllReadyH.cons (by simp only [List.getElem?_toArray, List.getElem?_cons_succ, List.getElem?_cons_zero]; rfl) (fun K hK => ?_) AllReadyH.nil
        go_simp
        refine (refForm_any a _ HV.out).mono ?_
        rintro e w1 ⟨v, rfl, hown, hb⟩
        have hcv := run_convert_own (P := Tryz.prog) w1 97 9 5 Tryz.underlying97 Tryz.underlying5 Tryz.underlying9 rfl hown
        have HB := Lib.hid hb
        clear hown hb
        go_simp
        refine hK.out _ _ trivial (fun _ => ?_)
        try simp only [Act.put, List.setIfInBounds_toArray, List.set_cons_zero, List.set_cons_succ]
        refine wpAnyH_ready (rs := [6]) (by kernel_rfl) (by simp) ?_
        refine' AllReadyH.cons (by simp only [List.getElem?_toArray, List.getElem?_cons_succ, List.getElem?_cons_zero]; rfl) (fun K hK => ?_) AllReadyH.nil
        go_simp
        refine hK.out _ _ trivial (fun _ => ?_)
        try simp only [Act.put, List.setIfInBounds_toArray, List.set_cons_zero, List.set_cons_succ]
        refine' wpAnyH_take (i := 13) (v := _) (by simp only [List.getElem?_toArray, List.getElem?_cons_succ, List.getElem?_cons_zero]; rfl) (by kernel_rfl) (by kernel_rfl) (by kernel_rfl) (by exact fun _ _ _ h => h) (Or.inl ⟨by rfl, ?hy13⟩) trivial ?rest13
        case hy13 => intro w hSw; clear hSw; go_simp; try with_reducible rfl
        try simp only [Act.put, List.setIfInBounds_toArray, List.set_cons_zero, List.set_cons_succ]
        refine' wpAnyH_take (i := 14) (v := _) (by simp only [List.getElem?_toArray, List.getElem?_cons_succ, List.getElem?_cons_zero]; rfl) (by kernel_rfl) (by kernel_rfl) (by kernel_rfl) (by exact fun _ _ _ h => h) (Or.inl ⟨by rfl, ?hy14⟩) trivial ?rest14
        case hy14 => intro w hSw; clear hSw; go_simp; try with_reducible rfl
        try simp only [Act.put, List.setIfInBounds_toArray, List.set_cons_zero, List.set_cons_succ]
        refine wpAnyH_done (by kernel_rfl) ?_ _
        go_wp2_with fail
        · go_ret2
          go_light
          have hg : good (s.data.toList.drop k) a 3 = false := leaf_ne ‹_›
          rw [HA.out] at hg
          exact next_mk h1 (HACC.out.2 hg) rfl rfl ((below_drewN (Below.refl _ _) 1).trans HB.out)
        · go_ret2
          go_light
          have hg : good (s.data.toList.drop k) a 3 = true := leaf_eq HV.out ‹_›
          rw [HA.out] at hg
          have hd := HACC.out.1 hg
          exact next_mk h1 hd.1 (by rw [HA.out]; exact Int.toNat_of_nonneg hd.2) rfl ((below_drewN (Below.refl _ _) 1).trans HB.out)

set_option maxRecDepth 100000 in
set_option maxHeartbeats 2000000 in
theorem refNext_4 (s : ByteArray) (k : Nat) (w : World) (hs : s.size ≤ 9223372036854775807) (h1 : k < s.size) (ha : 240 ≤ s[k].toNat) (hb : s[k].toNat < 248) :
    Calls Tryz.prog 78 #[.string s, .int .i64 k] w (NextRet s.data.toList k w) := by
  have hb0 := byte_first s k h1 0 (by omega)
  simp only [Nat.add_zero] at hb0
  have HB0 := Lib.hid hb0; clear hb0
  have ha' : (240 : Int) ≤ s[k].toNat := by omega
  have hb' : (s[k].toNat : Int) < 248 := by omega
  have hk0 : (0 : Int) ≤ k := by omega
  have hkb : decide ((k : Int) < 0) = false := by simp
  have hsb : decide (s.size ≤ k) = false := by simp; omega
  have hbb : decide ((s[k].toNat : Int) < 128) = false := by simp; omega
  by_cases hn : s.size - k < 4
  · go_enter Tryz.func78, Tryz.ntmps78
    go_wp2_with fail
    go_ret2
    go_light
    exact next_mk h1 (dec_short _ 4 (by rw [HB0.out]; omega) (by simp; omega)) rfl rfl (Below.refl _ _)
  have hacc := dec_four (s.data.toList.drop k) (by rw [HB0.out]; exact ⟨ha, hb⟩) (by simp; omega)
  rw [HB0.out] at hacc
  have HACC := Lib.hid hacc; clear hacc
  go_enter Tryz.func78, Tryz.ntmps78
  go_wp2_with fail
  go_loop [8, 9] (fun r i => ∃ j : Nat, j + 1 ≤ 4 ∧ i = .int .i64 ((j : Int) + 1) ∧ ∃ a : Int, 0 ≤ a ∧ a + 1 ≤ 32 * 64 ^ j ∧ r = .int .i32 a ∧ Hid (a = acc (s.data.toList.drop k) ((s[k].toNat : Int) - 240) j)) (fun _ i => 8 - (RowKit.intOf i).toNat)
  case atStart => exact ⟨0, by omega, rfl, _, by omega, by omega, rfl, Lib.hid rfl⟩
  case round =>
    obtain ⟨j, hj, rfl, a, ha0, ha1, rfl, HA⟩ := hrel
    by_cases hlt : j + 1 < 4
    · have hp1 : a ≤ 131072 := by
        have : j = 0 ∨ j = 1 ∨ j = 2 := by omega
        rcases this with rfl | rfl | rfl <;> omega
      have HA1 := Lib.hid ha1; clear ha1
      have e63 := and63 s[k + (j + 1)]
      have hs63 : s[k + (j + 1)].toNat % 64 < 64 := by omega
      have HSTEP := Lib.hid (acc_step s k j ((s[k].toNat : Int) - 240) h1 (by omega))
      go_wp2_with fail
      go_round
      case rel =>
        go_light
        refine ⟨j + 1, by omega, by go_num, _, ?_, ?_, rfl, Lib.hid ?_⟩
        · omega
        · have hh := HA1.out
          have h64 : (64 : Int) ^ (j + 1) = 64 ^ j * 64 := Int.pow_succ 64 j
          rw [h64]
          generalize (64 : Int) ^ j = y at *
          omega
        · rw [HSTEP.out, ← HA.out]; rfl
      case measure => simp [RowKit.intOf]; omega
    · obtain rfl : j = 3 := by omega
      cases hv : Lib.validRune a
      · have HC := Lib.hid (fun n => quiet_bool (w := w) n (hv ▸ refRune_any a (w.drewN n)))
        have HV := Lib.hid hv
        clear hv
        go_wp2_with fail
        go_quiet ((go_at_call 98; exact HC.out _))
        go_wp2_with fail
        go_ret2
        go_light
        have hg : good (s.data.toList.drop k) a 4 = false := leaf_bad HV.out
        rw [HA.out] at hg
        exact next_mk h1 (HACC.out.2 hg) rfl rfl (below_drewN (Below.refl _ _) _)
      · have HC := Lib.hid (fun W => hv ▸ refRune_any a W)
        have HV := Lib.hid hv
        clear hv
        go_wp2_with fail
        have q1 : IntKind.i64.wrap ((k : Int) + 4) = (k : Int) + 4 := IntWalk.i64_in _ (by omega)
        have q2 : (0 : Int) ≤ (k : Int) + 4 := by omega
        have q3 : ((k : Int) + 4).toNat = k + 4 := by omega
        have q4 : (k : Int) ≤ (k : Int) + 4 := by omega
        have q5 : (k : Int) + 4 ≤ s.size := by omega
        refine wp_region_held_drew (S := fun _ => True) (by kernel_rfl) trivial (fun _ => ?_)
        refine' wpAnyH_take (i := 0) (v := _) (by simp only [List.getElem?_toArray, List.getElem?_cons_zero]; rfl) (by kernel_rfl) (by kernel_rfl) (by kernel_rfl) (by exact fun _ _ _ h => h) (Or.inl ⟨by rfl, ?hy0⟩) trivial ?rest0
        case hy0 => intro w hSw; clear hSw; go_simp; try with_reducible rfl
        try simp only [Act.put, List.setIfInBounds_toArray, List.set_cons_zero, List.set_cons_succ]
        refine wpAnyH_ready (rs := [1]) (by kernel_rfl) (by simp) ?_
        refine' AllReadyH.cons (by simp only [List.getElem?_toArray, List.getElem?_cons_succ, List.getElem?_cons_zero]; rfl) (fun K hK => ?_) AllReadyH.nil
        go_simp
        refine (HC.out _).mono ?_
        rintro e w' ⟨rfl, rfl⟩
        go_simp
        refine hK.out _ _ trivial (fun _ => ?_)
        try simp only [Act.put, List.setIfInBounds_toArray, List.set_cons_zero, List.set_cons_succ]
        refine' wpAnyH_take (i := 2) (v := _) (by simp only [List.getElem?_toArray, List.getElem?_cons_succ, List.getElem?_cons_zero]; rfl) (by kernel_rfl) (by kernel_rfl) (by kernel_rfl) (by exact fun _ _ _ h => h) (Or.inl ⟨by rfl, ?hy2⟩) trivial ?rest2
        case hy2 => intro w hSw; clear hSw; go_simp; try with_reducible rfl
        try simp only [Act.put, List.setIfInBounds_toArray, List.set_cons_zero, List.set_cons_succ]
        refine' wpAnyH_take (i := 3) (v := _) (by simp only [List.getElem?_toArray, List.getElem?_cons_succ, List.getElem?_cons_zero]; rfl) (by kernel_rfl) (by kernel_rfl) (by kernel_rfl) (by exact fun _ _ _ h => h) (Or.inl ⟨by rfl, ?hy3⟩) trivial ?rest3
        case hy3 => intro w hSw; clear hSw; go_simp; try with_reducible rfl
        try simp only [Act.put, List.setIfInBounds_toArray, List.set_cons_zero, List.set_cons_succ]
        refine' wpAnyH_take (i := 4) (v := _) (by simp only [List.getElem?_toArray, List.getElem?_cons_succ, List.getElem?_cons_zero]; rfl) (by kernel_rfl) (by kernel_rfl) (by kernel_rfl) (by exact fun _ _ _ h => h) (Or.inl ⟨by rfl, ?hy4⟩) trivial ?rest4
        case hy4 => intro w hSw; clear hSw; go_simp; try with_reducible rfl
        try simp only [Act.put, List.setIfInBounds_toArray, List.set_cons_zero, List.set_cons_succ]
        refine' wpAnyH_take (i := 7) (v := _) (by simp only [List.getElem?_toArray, List.getElem?_cons_succ, List.getElem?_cons_zero]; rfl) (by kernel_rfl) (by kernel_rfl) (by kernel_rfl) (by exact fun _ _ _ h => h) (Or.inl ⟨by rfl, ?hy7⟩) trivial ?rest7
        case hy7 => intro w hSw; clear hSw; go_simp; try with_reducible rfl
        try simp only [Act.put, List.setIfInBounds_toArray, List.set_cons_zero, List.set_cons_succ]
        refine' wpAnyH_take (i := 8) (v := _) (by simp only [List.getElem?_toArray, List.getElem?_cons_succ, List.getElem?_cons_zero]; rfl) (by kernel_rfl) (by kernel_rfl) (by kernel_rfl) (by exact fun _ _ _ h => h) (Or.inl ⟨by rfl, ?hy8⟩) trivial ?rest8
        case hy8 => intro w hSw; clear hSw; go_simp; try with_reducible rfl
        try simp only [Act.put, List.setIfInBounds_toArray, List.set_cons_zero, List.set_cons_succ]
        refine' wpAnyH_take (i := 9) (v := _) (by simp only [List.getElem?_toArray, List.getElem?_cons_succ, List.getElem?_cons_zero]; rfl) (by kernel_rfl) (by kernel_rfl) (by kernel_rfl) (by exact fun _ _ _ h => h) (Or.inl ⟨by rfl, ?hy9⟩) trivial ?rest9
        case hy9 => intro w hSw; clear hSw; go_simp; try with_reducible rfl
        try simp only [Act.put, List.setIfInBounds_toArray, List.set_cons_zero, List.set_cons_succ]
        refine' wpAnyH_take (i := 10) (v := _) (by simp only [List.getElem?_toArray, List.getElem?_cons_succ, List.getElem?_cons_zero]; rfl) (by kernel_rfl) (by kernel_rfl) (by kernel_rfl) (by exact fun _ _ _ h => h) (Or.inl ⟨by rfl, ?hy10⟩) trivial ?rest10
        case hy10 => intro w hSw; clear hSw; go_simp; try with_reducible rfl
        try simp only [Act.put, List.setIfInBounds_toArray, List.set_cons_zero, List.set_cons_succ]
        refine' wpAnyH_take (i := 11) (v := _) (by simp only [List.getElem?_toArray, List.getElem?_cons_succ, List.getElem?_cons_zero]; rfl) (by kernel_rfl) (by kernel_rfl) (by kernel_rfl) (by exact fun _ _ _ h => h) (Or.inl ⟨by rfl, ?hy11⟩) trivial ?rest11
        case hy11 => intro w hSw; clear hSw; go_simp; try with_reducible rfl
        try simp only [Act.put, List.setIfInBounds_toArray, List.set_cons_zero, List.set_cons_succ]
        refine' wpAnyH_take (i := 12) (v := _) (by simp only [List.getElem?_toArray, List.getElem?_cons_succ, List.getElem?_cons_zero]; rfl) (by kernel_rfl) (by kernel_rfl) (by kernel_rfl) (by exact fun _ _ _ h => h) (Or.inl ⟨by rfl, ?hy12⟩) trivial ?rest12
        case hy12 => intro w hSw; clear hSw; go_simp; try with_reducible rfl
        try simp only [Act.put, List.setIfInBounds_toArray, List.set_cons_zero, List.set_cons_succ]
        refine wpAnyH_ready (rs := [5]) (by kernel_rfl) (by simp) ?_
        refine' AllReadyH.cons (by simp only [List.getElem?_toArray, List.getElem?_cons_succ, List.getElem?_cons_zero]; rfl) (fun K hK => ?_) AllReadyH.nil
        go_simp
        refine (refForm_any a _ HV.out).mono ?_
        rintro e w1 ⟨v, rfl, hown, hb⟩
        have hcv := run_convert_own (P := Tryz.prog) w1 97 9 5 Tryz.underlying97 Tryz.underlying5 Tryz.underlying9 rfl hown
        have HB := Lib.hid hb
        clear hown hb
        go_simp
        refine hK.out _ _ trivial (fun _ => ?_)
        try simp only [Act.put, List.setIfInBounds_toArray, List.set_cons_zero, List.set_cons_succ]
        refine wpAnyH_ready (rs := [6]) (by kernel_rfl) (by simp) ?_
        refine' AllReadyH.cons (by simp only [List.getElem?_toArray, List.getElem?_cons_succ, List.getElem?_cons_zero]; rfl) (fun K hK => ?_) AllReadyH.nil
        go_simp
        refine hK.out _ _ trivial (fun _ => ?_)
        try simp only [Act.put, List.setIfInBounds_toArray, List.set_cons_zero, List.set_cons_succ]
        refine' wpAnyH_take (i := 13) (v := _) (by simp only [List.getElem?_toArray, List.getElem?_cons_succ, List.getElem?_cons_zero]; rfl) (by kernel_rfl) (by kernel_rfl) (by kernel_rfl) (by exact fun _ _ _ h => h) (Or.inl ⟨by rfl, ?hy13⟩) trivial ?rest13
        case hy13 => intro w hSw; clear hSw; go_simp; try with_reducible rfl
        try simp only [Act.put, List.setIfInBounds_toArray, List.set_cons_zero, List.set_cons_succ]
        refine' wpAnyH_take (i := 14) (v := _) (by simp only [List.getElem?_toArray, List.getElem?_cons_succ, List.getElem?_cons_zero]; rfl) (by kernel_rfl) (by kernel_rfl) (by kernel_rfl) (by exact fun _ _ _ h => h) (Or.inl ⟨by rfl, ?hy14⟩) trivial ?rest14
        case hy14 => intro w hSw; clear hSw; go_simp; try with_reducible rfl
        try simp only [Act.put, List.setIfInBounds_toArray, List.set_cons_zero, List.set_cons_succ]
        refine wpAnyH_done (by kernel_rfl) ?_ _
        go_wp2_with fail
        · go_ret2
          go_light
          have hg : good (s.data.toList.drop k) a 4 = false := leaf_ne ‹_›
          rw [HA.out] at hg
          exact next_mk h1 (HACC.out.2 hg) rfl rfl ((below_drewN (Below.refl _ _) 1).trans HB.out)
        · go_ret2
          go_light
          have hg : good (s.data.toList.drop k) a 4 = true := leaf_eq HV.out ‹_›
          rw [HA.out] at hg
          have hd := HACC.out.1 hg
          exact next_mk h1 hd.1 (by rw [HA.out]; exact Int.toNat_of_nonneg hd.2) rfl ((below_drewN (Below.refl _ _) 1).trans HB.out)

set_option maxRecDepth 100000 in
set_option maxHeartbeats 2000000 in
theorem refNext_any (s : ByteArray) (at_ : Int) (w : World) (hs : s.size ≤ maxLen) :
    Calls Tryz.prog 78 #[.string s, .int .i64 at_] w (NextRet s.data.toList at_ w) := by
  unfold maxLen at hs
  have hlen : s.data.toList.length = s.size := by simp
  have HL := Lib.hid hlen; clear hlen
  by_cases h0 : at_ < 0
  · go_enter Tryz.func78, Tryz.ntmps78
    go_wp2_with fail
    go_ret2
    exact next_mk_out (by omega) (Below.refl _ _)
  obtain ⟨k, rfl⟩ : ∃ k : Nat, at_ = k := ⟨at_.toNat, by omega⟩
  by_cases h1 : ¬ k < s.size
  · go_enter Tryz.func78, Tryz.ntmps78
    go_wp2_with fail
    go_ret2
    exact next_mk_out (by rw [HL.out]; omega) (Below.refl _ _)
  have h1 : k < s.size := by omega
  have hb0 := byte_first s k h1 0 (by omega)
  simp only [Nat.add_zero] at hb0
  have HB0 := Lib.hid hb0; clear hb0
  have hk := (s[k]).toNat_lt
  by_cases c1 : (s[k].toNat : Int) < 128
  · go_enter Tryz.func78, Tryz.ntmps78
    go_wp2_with fail
    go_ret2
    go_light
    exact next_mk h1 (dec_ascii _ (by rw [HB0.out]; omega)) (by rw [HB0.out]) rfl (Below.refl _ _)
  by_cases c2 : s[k].toNat < 192
  · go_enter Tryz.func78, Tryz.ntmps78
    go_wp2_with fail
    go_ret2
    go_light
    exact next_mk h1 (dec_odd _ (by rw [HB0.out]; omega)) rfl rfl (Below.refl _ _)
  by_cases c3 : s[k].toNat < 224
  · exact refNext_2 s k w hs h1 (by omega) c3
  by_cases c4 : s[k].toNat < 240
  · exact refNext_3 s k w hs h1 (by omega) c4
  by_cases c5 : s[k].toNat < 248
  · exact refNext_4 s k w hs h1 (by omega) c5
  · go_enter Tryz.func78, Tryz.ntmps78
    go_wp2_with fail
    go_ret2
    go_light
    exact next_mk h1 (dec_odd _ (by rw [HB0.out]; omega)) rfl rfl (Below.refl _ _)

end Go.Proofs.YtinmiekbhoemjaaGreatDoor.FoldNext
