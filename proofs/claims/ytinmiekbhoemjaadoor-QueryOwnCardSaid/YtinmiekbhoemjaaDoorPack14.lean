/- Contracts: the program's and the document's Name. Contracts: the parser's first methods: a fault, blanks, one byte. -/
import Derived.Test.YtinmiekbhoemjaaDoorPack2
import Derived.Test.YtinmiekbhoemjaaDoorWords
import Derived.Test.YtinmiekbhoemjaaDoorPack7
import Derived.Test.YtinmiekbhoemjaaDoorProg
import Derived.Lib.Hide
import Derived.Lib.ConvBytes
import Derived.WalkKit
import Derived.ProofKit
import Derived.LoopTactic
import Derived.Test.YtinmiekbhoemjaaDoorPack8
import Derived.Test.YtinmiekbhoemjaaDoorQrySzP
import Derived.Test.YtinmiekbhoemjaaDoorShelf
import Derived.Deep.LoopGhost
import Derived.Deep.RegionHeld3
import Derived.Deep.QuietTactic
import Derived.BigQuiet
section
set_option linter.unusedVariables false
namespace Go.Proofs.YtinmiekbhoemjaaDoor.Sch
open Go.RowKit Go.Lib Words Kit SchP

/-- A bool is answered. -/
def AnsB (b : Bool) (w : World) (e : Ending) (w' : World) : Prop := e = .returned (.bool b) ∧ Below w.heap.size w w'
theorem below_bytesWorld (w : World) (e : TypeId) (s : ByteArray) : Below w.heap.size w (bytesWorld w e s) := by
  refine ⟨rfl, rfl, rfl, by rw [bytesWorld_size]; omega, fun k hk => bytesWorld_at_old w e s k hk⟩
theorem byteB_cases (i : Nat) (c : UInt8) : byteB i c = true ∧ ((97 ≤ (c.toNat : Int) ∧ (c.toNat : Int) ≤ 122) ∨ (c.toNat : Int) = 95 ∨ ((0 : Int) < i ∧ 48 ≤ (c.toNat : Int) ∧ (c.toNat : Int) ≤ 57))
    ∨ byteB i c = false ∧ ¬ ((97 ≤ (c.toNat : Int) ∧ (c.toNat : Int) ≤ 122) ∨ (c.toNat : Int) = 95 ∨ ((0 : Int) < i ∧ 48 ≤ (c.toNat : Int) ∧ (c.toNat : Int) ≤ 57)) := by
  cases h : byteB i c with
  | true =>
    left
    simp only [byteB, Bool.or_eq_true, Bool.and_eq_true, decide_eq_true_eq] at h
    exact ⟨rfl, by omega⟩
  | false =>
    right
    simp only [byteB, Bool.or_eq_false_iff, Bool.and_eq_false_iff, decide_eq_false_iff_not] at h
    exact ⟨rfl, by omega⟩

set_option maxRecDepth 100000 in
set_option maxHeartbeats 1000000 in
theorem name_any (s : ByteArray) (w : World) (hs : s.size ≤ 140737488351232) : Calls Tryd.prog 37 #[.string s] w (AnsB (nameB s) w) := by
  have hcv := Go.Lib.run_convert_string_bytes (P := Tryd.prog) w 9 43 5 s (u := .string) Tryd.underlying9 Tryd.underlying43 Tryd.underlying5
  have HB := Lib.hid (below_bytesWorld w 5 s)
  have HC := Lib.hid (bytesWorld_cell w 5 s)
  have hz := bytesWorld_size w 5 s
  have hln : s.data.toList.length = s.size := by simp
  obtain ⟨r, hr⟩ : ∃ r, bytesB 0 s.data.toList = r := ⟨_, rfl⟩
  have HR : Hid (bytesB 0 (s.data.toList.drop 0) = r) := Lib.hid hr
  have HN : Hid (nameB s = (r && decide (1 ≤ s.size) && decide (s.size ≤ 24))) := Lib.hid (by rw [nameB, hr])
  clear hr
  generalize bytesWorld w 5 s = W at *
  go_enter Tryd.func37, Tryd.ntmps37
  go_wp2_with fail
  go_loop [3, 4, 8] (fun _ _ i => ∃ k : Nat, k ≤ s.size ∧ i = .int .i64 k ∧ Hid (bytesB k (s.data.toList.drop k) = r)) (fun _ _ i => s.size - (RowKit.intOf i).toNat)
  case atStart => exact ⟨0, by omega, rfl, HR⟩
  case round =>
    obtain ⟨k, hk, rfl, HE⟩ := hrel
    by_cases hlt : k < s.size
    · have hc := HC.out k hlt
      have HS : Hid (bytesB k (s.data.toList.drop k) = (byteB k (s.data.toList.getD k 0) && bytesB (k + 1) (s.data.toList.drop (k + 1)))) := Lib.hid (by rw [bytesB_step (by omega), List.getD_eq_getElem?_getD, List.getElem?_eq_getElem (by omega)]; rfl)
      have hcs := byteB_cases k (s.data.toList.getD k 0)
      have hlc := (s.data.toList.getD k 0).toNat_lt
      have hc2 : W.cell? ⟨w.heap.size, 0 + k, none⟩ = some (.int .u8 (s.data.toList.getD k 0).toNat) := by rw [Nat.zero_add]; exact hc
      generalize s.data.toList.getD k 0 = c at *
      generalize hcn : c.toNat = n at *
      rcases hcs with ⟨hb, hcs⟩ | ⟨hb, hcs⟩
      · have HE2 : Hid (bytesB (k + 1) (s.data.toList.drop (k + 1)) = r) := Lib.hid (by rw [← HE.out, HS.out, hb]; rfl)
        clear hb HS
        rcases (show (97 ≤ (n : Int) ∧ (n : Int) ≤ 122) ∨ (n : Int) = 95 ∨ ((n : Int) < 95 ∧ (0 : Int) < k ∧ 48 ≤ (n : Int) ∧ (n : Int) ≤ 57) by omega) with ⟨h1, h2⟩ | h1 | ⟨h0', h1, h2, h3⟩
        · have d1 : decide (97 ≤ (n : Int)) = true := by simpa using h1
          have d2 : decide ((n : Int) ≤ 122) = true := by simpa using h2
          go_wp2_with fail
          go_round
          case rel => exact ⟨k + 1, by omega, by go_num, HE2⟩
          case measure => simp [RowKit.intOf]; omega
        · have d1 : decide (97 ≤ (n : Int)) = false := by rw [decide_eq_false_iff_not]; omega
          have d2 : ((n : Int) == 95) = true := by rw [h1]; rfl
          go_wp2_with fail
          go_round
          case rel => exact ⟨k + 1, by omega, by go_num, HE2⟩
          case measure => simp [RowKit.intOf]; omega
        · have d1 : decide (97 ≤ (n : Int)) = false := by rw [decide_eq_false_iff_not]; omega
          have d2 : ((n : Int) == 95) = false := by rw [beq_eq_false_iff_ne]; omega
          have d3 : decide ((0 : Int) < k) = true := by simpa using h1
          have d4 : decide (48 ≤ (n : Int)) = true := by simpa using h2
          have d5 : decide ((n : Int) ≤ 57) = true := by simpa using h3
          go_wp2_with fail
          go_round
          case rel => exact ⟨k + 1, by omega, by go_num, HE2⟩
          case measure => simp [RowKit.intOf]; omega
      · have HA : Hid (nameB s = false) := Lib.hid (by rw [HN.out, ← HE.out, HS.out, hb]; rfl)
        clear hb HS
        rcases (show ((n : Int) < 97 ∧ (n : Int) ≠ 95 ∧ (k : Int) ≤ 0) ∨ ((n : Int) < 97 ∧ (n : Int) ≠ 95 ∧ 0 < k ∧ (n : Int) < 48) ∨ ((n : Int) < 97 ∧ (n : Int) ≠ 95 ∧ 0 < k ∧ 57 < (n : Int)) ∨ (122 < (n : Int) ∧ (k : Int) ≤ 0) ∨ (122 < (n : Int) ∧ 0 < k) by omega) with ⟨q1, q2, q3⟩ | ⟨q1, q2, q3, q4⟩ | ⟨q1, q2, q3, q4⟩ | ⟨q1, q2⟩ | ⟨q1, q2⟩
        · have d1 : decide (97 ≤ (n : Int)) = false := by rw [decide_eq_false_iff_not]; omega
          have d3 : ((n : Int) == 95) = false := by rw [beq_eq_false_iff_ne]; omega
          have d4 : decide ((0 : Int) < k) = false := by rw [decide_eq_false_iff_not]; omega
          go_wp2_with fail
          go_ret
          rw [HA.out]; exact ⟨rfl, HB.out⟩
        · have d1 : decide (97 ≤ (n : Int)) = false := by rw [decide_eq_false_iff_not]; omega
          have d3 : ((n : Int) == 95) = false := by rw [beq_eq_false_iff_ne]; omega
          have d4 : decide ((0 : Int) < k) = true := by rw [decide_eq_true_iff]; omega
          have d5 : decide (48 ≤ (n : Int)) = false := by rw [decide_eq_false_iff_not]; omega
          go_wp2_with fail
          go_ret
          rw [HA.out]; exact ⟨rfl, HB.out⟩
        · have d1 : decide (97 ≤ (n : Int)) = false := by rw [decide_eq_false_iff_not]; omega
          have d3 : ((n : Int) == 95) = false := by rw [beq_eq_false_iff_ne]; omega
          have d4 : decide ((0 : Int) < k) = true := by rw [decide_eq_true_iff]; omega
          have d5 : decide (48 ≤ (n : Int)) = true := by rw [decide_eq_true_iff]; omega
          have d6 : decide ((n : Int) ≤ 57) = false := by rw [decide_eq_false_iff_not]; omega
          go_wp2_with fail
          go_ret
          rw [HA.out]; exact ⟨rfl, HB.out⟩
        · have d1 : decide (97 ≤ (n : Int)) = true := by rw [decide_eq_true_iff]; omega
          have d2 : decide ((n : Int) ≤ 122) = false := by rw [decide_eq_false_iff_not]; omega
          have d3 : ((n : Int) == 95) = false := by rw [beq_eq_false_iff_ne]; omega
          have d4 : decide ((0 : Int) < k) = false := by rw [decide_eq_false_iff_not]; omega
          go_wp2_with fail
          go_ret
          rw [HA.out]; exact ⟨rfl, HB.out⟩
        · have d1 : decide (97 ≤ (n : Int)) = true := by rw [decide_eq_true_iff]; omega
          have d2 : decide ((n : Int) ≤ 122) = false := by rw [decide_eq_false_iff_not]; omega
          have d3 : ((n : Int) == 95) = false := by rw [beq_eq_false_iff_ne]; omega
          have d4 : decide ((0 : Int) < k) = true := by rw [decide_eq_true_iff]; omega
          have d5 : decide (48 ≤ (n : Int)) = true := by rw [decide_eq_true_iff]; omega
          have d6 : decide ((n : Int) ≤ 57) = false := by rw [decide_eq_false_iff_not]; omega
          go_wp2_with fail
          go_ret
          rw [HA.out]; exact ⟨rfl, HB.out⟩
    · obtain rfl : k = s.size := by omega
      have HF : Hid (r = true) := Lib.hid (by rw [← HE.out, ← hln, List.drop_length]; rfl)
      have hlt2 : ¬ s.size < s.size := by omega
      by_cases h1 : 1 ≤ s.size
      · by_cases h2 : s.size ≤ 24
        · have HA : Hid (nameB s = true) := Lib.hid (by rw [HN.out, HF.out, decide_eq_true h1, decide_eq_true h2]; rfl)
          have d1 : decide (1 ≤ (s.size : Int)) = true := by rw [decide_eq_true_iff]; omega
          have d2 : decide ((s.size : Int) ≤ 24) = true := by rw [decide_eq_true_iff]; omega
          go_wp2_with fail
          go_ret
          rw [HA.out]; exact ⟨rfl, HB.out⟩
        · have HA : Hid (nameB s = false) := Lib.hid (by rw [HN.out, HF.out, decide_eq_true h1, decide_eq_false h2]; rfl)
          have d1 : decide (1 ≤ (s.size : Int)) = true := by rw [decide_eq_true_iff]; omega
          have d2 : decide ((s.size : Int) ≤ 24) = false := by rw [decide_eq_false_iff_not]; omega
          go_wp2_with fail
          go_ret
          rw [HA.out]; exact ⟨rfl, HB.out⟩
      · have HA : Hid (nameB s = false) := Lib.hid (by rw [HN.out, HF.out, decide_eq_false h1]; rfl)
        have d1 : decide (1 ≤ (s.size : Int)) = false := by rw [decide_eq_false_iff_not]; omega
        go_wp2_with fail
        go_ret
        rw [HA.out]; exact ⟨rfl, HB.out⟩
end Go.Proofs.YtinmiekbhoemjaaDoor.Sch
end
section
set_option linter.unusedVariables false
namespace Go.Proofs.YtinmiekbhoemjaaDoor.Qry
open Go.RowKit Words Tree QryP Kit Sch Owned

/-- What is left of the text. -/
abbrev rem (s : ByteArray) (k : Nat) : R := s.data.toList.drop k
/-- The parser at block gp reads text s and stands at place k. -/
structure Pa (s : ByteArray) (gp k : Nat) (w : World) : Prop where
  blk : Blk w gp 55 #[.string s, .int .i64 k]
  le : k ≤ s.size
theorem Pa.keep {s : ByteArray} {gp k : Nat} {w w' : World} (h : Pa s gp k w) (hb : Below w.heap.size w w') : Pa s gp k w' := ⟨h.blk.below hb h.blk.lt, h.le⟩
theorem Pa.grown {s : ByteArray} {gp k : Nat} {w w' : World} {row : Option Nat} (h : Pa s gp k w) (hg : w.grownBy w' row) (hr : row ≠ some gp) : Pa s gp k w' := ⟨h.blk.grown hg (Ne.symm hr), h.le⟩
theorem grown_trans' {a b c : World} {row : Option Nat} (h : a.grownBy b row) (k : b.grownBy c row) : a.grownBy c row :=
  ⟨k.os.trans h.os, k.tape.trans h.tape, k.output.trans h.output, Nat.le_trans h.size k.size, fun i hi hne => (k.block i (Nat.lt_of_lt_of_le hi h.size) hne).trans (h.block i hi hne)⟩
theorem Pa.drewN {s : ByteArray} {gp k : Nat} {w : World} (h : Pa s gp k w) (n : Nat) : Pa s gp k (w.drewN n) := ⟨h.blk.drewN n, h.le⟩
/-- The parser goes on by m. -/
theorem Pa.next {s : ByteArray} {gp k : Nat} {w : World} (h : Pa s gp k w) (m : Nat) (hk : k + m ≤ s.size) (v : Int) (hv : v = (k + m : Nat)) : Pa s gp (k + m) (w.setCell ⟨gp, 1, none⟩ (.int .i64 v)) := by
  subst hv
  exact ⟨h.blk.set_ 1 _, hk⟩
theorem grown_next {w0 w : World} {gp : Nat} (h : w0.grownBy w (some gp)) (i : Nat) (u : Value) : w0.grownBy (w.setCell ⟨gp, i, none⟩ u) (some gp) := only_setCell h (.inl rfl) u
/-- What reading is given up with. -/
def faultV (k : Int) (c : Int) : Value := .iface 51 (.agg #[.int .i64 k, .int .i64 c])
def faultE (k : Int) (c : Int) : Ending := .panicked [{ v := faultV k c, recovered := false }]
theorem wrong_any (k : Int) (w : World) : Calls Tryd.prog 34 #[.int .i64 k] w fun e w' => e = faultE k 180 ∧ w' = w := by
  go_enter Tryd.func34, Tryd.ntmps34
  go_wp2_with fail
  exact ⟨rfl, rfl, rfl⟩
theorem rem_cons {s : ByteArray} {k : Nat} (h : k < s.size) : rem s k = s[k] :: rem s (k + 1) := by
  have h2 : k < s.data.toList.length := by simpa using h
  unfold rem
  rw [List.drop_eq_getElem_cons h2]
  congr 1
theorem rem_nil (s : ByteArray) : rem s s.size = [] := by unfold rem; rw [List.drop_eq_nil_iff]; simp
theorem rem_len (s : ByteArray) (k : Nat) : (rem s k).length = s.size - k := by unfold rem; rw [List.length_drop]; simp
theorem byte_back (c : UInt8) : ((c.toNat : Int)).toNat.toUInt8 = c := by simp
theorem byte_all {p : UInt8 → Prop} (h : ∀ n : Fin 256, p (UInt8.ofNat n.val)) (c : UInt8) : p c := by
  have := h ⟨c.toNat, c.toNat_lt⟩
  simpa using this
theorem blank_ix (c : UInt8) : (if blankB c then 0 ≤ Lib.indexByte [9, 10, 13, 32] c else Lib.indexByte [9, 10, 13, 32] c < 0) := by
  revert c
  exact byte_all (by decide +kernel)
theorem skip_rem {s : ByteArray} {k : Nat} (h : k < s.size) : skipS (rem s k) = if blankB s[k] then skipS (rem s (k + 1)) else rem s k := by
  rw [rem_cons h]
  unfold skipS
  rw [List.dropWhile_cons]
/-- The parser has gone on to where r is left. -/
def At (s : ByteArray) (gp k : Nat) (w : World) (r : R) (w' : World) : Prop := w.grownBy w' (some gp) ∧ ∃ k', k ≤ k' ∧ Pa s gp k' w' ∧ rem s k' = r
theorem At.refl {s : ByteArray} {gp k : Nat} {w : World} (h : Pa s gp k w) : At s gp k w (rem s k) w := ⟨World.grownBy.refl w _, k, Nat.le_refl _, h, rfl⟩
def UnitAt (s : ByteArray) (gp k : Nat) (w : World) (r : R) (e : Ending) (w' : World) : Prop := e = .returned (.tuple #[]) ∧ At s gp k w r w'
set_option maxRecDepth 100000 in
set_option maxHeartbeats 4000000 in
theorem skip_any (s : ByteArray) (gp k : Nat) (w : World) (h : Pa s gp k w) (hs : s.size ≤ 4096) : Calls Tryd.prog 33 #[.pointer (some ⟨gp, 0, none⟩)] w (UnitAt s gp k w (skipS (rem s k))) := by
  have HP := Lib.hid h
  obtain ⟨r, hr⟩ : ∃ r, skipS (rem s k) = r := ⟨_, rfl⟩
  rw [hr]
  have H0 : Hid (w.grownBy w (some gp) ∧ skipS (rem s k) = r) := Lib.hid ⟨World.grownBy.refl w _, hr⟩
  clear h hr
  go_enter Tryd.func33, Tryd.ntmps33
  go_wp2_with fail
  go_loopg [] (s.size - k) (fun n wr => ∃ j : Nat, k ≤ j ∧ j ≤ s.size ∧ n = s.size - j ∧ Hid (Pa s gp j wr) ∧ Hid (w.grownBy wr (some gp) ∧ skipS (rem s j) = r))
  case atStart => exact ⟨k, Nat.le_refl _, HP.out.le, rfl, HP, H0⟩
  case round =>
    obtain ⟨j, hkj, hj, rfl, HJ, HE⟩ := hrel
    by_cases hlt : j < s.size
    · have c0 : wr.cell? ⟨gp, 0, none⟩ = some (.string s) := HJ.out.blk.cell 0
      have c1 : wr.cell? ⟨gp, 1, none⟩ = some (.int .i64 j) := HJ.out.blk.cell 1
      have z1 : wr.frozen? ⟨gp, 1, none⟩ = false := HJ.out.blk.frozen 1
      have h1 : (0 : Int) ≤ (j : Int) := by omega
      have h2 : (j : Int) < (s.size : Int) := by omega
      have HS := Lib.hid (skip_rem hlt)
      have hix := blank_ix s[j]
      cases hb : blankB s[j] with
      | true =>
        rw [hb] at hix HS
        have d1 : decide (0 ≤ Lib.indexByte [9, 10, 13, 32] s[j]) = true := decide_eq_true hix
        clear hix hb
        go_upto_region 0 with fail
        go_quiet ((go_at_call 66; exact Calls.quiet_of_same (Tryd.strings_IndexByte _ _ _)))
        go_wp2_with fail
        have HN : Hid (Pa s gp (j + 1) ((wr.drewN nq).setCell ⟨gp, 1, none⟩ (.int .i64 (j + 1)))) := Lib.hid ((HJ.out.drewN nq).next 1 hlt _ (by omega))
        have HG : Hid (w.grownBy ((wr.drewN nq).setCell ⟨gp, 1, none⟩ (.int .i64 (j + 1))) (some gp) ∧ skipS (rem s (j + 1)) = r) := Lib.hid ⟨grown_next (only_drewN HE.out.1 nq) 1 _, by rw [← HE.out.2, HS.out]; rfl⟩
        go_roundg (s.size - (j + 1))
        case measure => omega
        case rel => exact ⟨j + 1, by omega, by omega, rfl, HN, HG⟩
      | false =>
        rw [hb] at hix HS
        have d1 : decide (0 ≤ Lib.indexByte [9, 10, 13, 32] s[j]) = false := decide_eq_false (by simpa using hix)
        clear hix hb
        go_upto_region 0 with fail
        go_quiet ((go_at_call 66; exact Calls.quiet_of_same (Tryd.strings_IndexByte _ _ _)))
        go_wp2_with fail
        go_end0
        exact ⟨rfl, only_drewN HE.out.1 nq, j, hkj, HJ.out.drewN nq, by rw [← HE.out.2, HS.out]; rfl⟩
    · obtain rfl : j = s.size := by omega
      have c0 : wr.cell? ⟨gp, 0, none⟩ = some (.string s) := HJ.out.blk.cell 0
      have c1 : wr.cell? ⟨gp, 1, none⟩ = some (.int .i64 s.size) := HJ.out.blk.cell 1
      go_upto_region 0 with fail
      go_quiet (fail)
      go_wp2_with fail
      go_end0
      exact ⟨rfl, only_drewN HE.out.1 nq, s.size, hkj, HJ.out.drewN nq, by rw [← HE.out.2, rem_nil]; rfl⟩
end Go.Proofs.YtinmiekbhoemjaaDoor.Qry
end
