/- Contracts: the parser's is and want; letter; run. -/
import Derived.Test.YtinmiekbhoemjaaDoorPack14
set_option linter.unusedVariables false
namespace Go.Proofs.YtinmiekbhoemjaaDoor.Qry
open Go.RowKit Words Tree QryP Kit Sch Owned

/-- Whether a byte comes next, behind blanks, and what is left then. -/
def isS (c : UInt8) (r : R) : Bool × R := match skipS r with
  | [] => (false, [])
  | x :: t => if x = c then (true, t) else (false, x :: t)
theorem isS_nil {c : UInt8} {r : R} (h : skipS r = []) : isS c r = (false, []) := by unfold isS; rw [h]
theorem isS_cons {c x : UInt8} {r t : R} (h : skipS r = x :: t) : isS c r = if x = c then (true, t) else (false, x :: t) := by unfold isS; rw [h]
theorem At.trans {s : ByteArray} {gp k k' : Nat} {w w' w2 : World} {r : R} (h : w.grownBy w' (some gp)) (hk : k ≤ k') (h2 : At s gp k' w' r w2) : At s gp k w r w2 := by
  obtain ⟨hg, j, hj, hp, hr⟩ := h2
  exact ⟨grown_trans' h hg, j, by omega, hp, hr⟩
set_option maxRecDepth 100000 in
set_option maxHeartbeats 4000000 in
theorem is_any (c : UInt8) (s : ByteArray) (gp k : Nat) (w : World) (h : Pa s gp k w) (hs : s.size ≤ 4096) : Calls Tryd.prog 65 #[.pointer (some ⟨gp, 0, none⟩), .int .u8 c.toNat] w fun e w' => e = .returned (.bool (isS c (rem s k)).1) ∧ At s gp k w (isS c (rem s k)).2 w' := by
  have HSK := Lib.hid (skip_any s gp k w h hs)
  clear h
  obtain ⟨r, hr⟩ : ∃ r, rem s k = r := ⟨_, rfl⟩
  rw [hr] at HSK ⊢
  clear hr
  obtain ⟨y, hy⟩ : ∃ y, isS c r = y := ⟨_, rfl⟩
  rw [hy]
  have HY := Lib.hid hy
  clear hy
  go_enter Tryd.func65, Tryd.ntmps65
  go_wp2_with fail
  refine HSK.out.mono ?_
  rintro e wr ⟨rfl, hg, j, hkj, hp, hrem⟩
  have HG := Lib.hid hg; have HJ := Lib.hid hp
  clear hg hp HSK
  have hj := HJ.out.le
  by_cases hlt : j < s.size
  · have c0 : wr.cell? ⟨gp, 0, none⟩ = some (.string s) := HJ.out.blk.cell 0
    have c1 : wr.cell? ⟨gp, 1, none⟩ = some (.int .i64 j) := HJ.out.blk.cell 1
    have z1 : wr.frozen? ⟨gp, 1, none⟩ = false := HJ.out.blk.frozen 1
    have h1 : (0 : Int) ≤ (j : Int) := by omega
    have h2 : (j : Int) < (s.size : Int) := by omega
    have HIS := Lib.hid (isS_cons (c := c) (hrem.symm.trans (rem_cons hlt)))
    rw [HY.out] at HIS
    clear hrem
    by_cases hx : s[j] = c
    · rw [if_pos hx] at HIS
      have d1 : ((s[j].toNat : Int) == (c.toNat : Int)) = true := by rw [hx]; simp
      clear hx
      go_upto_region 2 with fail
      go_quiet (fail)
      go_wp2_with fail
      go_ret
      exact ⟨by rw [HIS.out]; rfl, grown_next (only_drewN HG.out nq) 1 _, j + 1, by omega, (HJ.out.drewN nq).next 1 hlt _ (by omega), by rw [HIS.out]⟩
    · rw [if_neg hx] at HIS
      have d1 : ((s[j].toNat : Int) == (c.toNat : Int)) = false := by
        rw [beq_eq_false_iff_ne]
        intro e; exact hx (UInt8.toNat_inj.1 (by omega))
      clear hx
      go_upto_region 2 with fail
      go_quiet (fail)
      go_wp2_with fail
      go_ret
      exact ⟨by rw [HIS.out]; rfl, only_drewN HG.out nq, j, hkj, HJ.out.drewN nq, by rw [HIS.out]; exact rem_cons hlt⟩
  · obtain rfl : j = s.size := by omega
    have HIS := Lib.hid (HY.out.symm.trans (isS_nil (by rw [← hrem, rem_nil])))
    have c0 : wr.cell? ⟨gp, 0, none⟩ = some (.string s) := HJ.out.blk.cell 0
    have c1 : wr.cell? ⟨gp, 1, none⟩ = some (.int .i64 s.size) := HJ.out.blk.cell 1
    clear hrem
    go_upto_region 2 with fail
    go_quiet (fail)
    go_wp2_with fail
    go_ret
    exact ⟨by rw [HIS.out]; rfl, only_drewN HG.out nq, s.size, hkj, HJ.out.drewN nq, by rw [HIS.out]; exact rem_nil s⟩
/-- What a method answers: a value, the parser gone on; or a fault. -/
def Out {α : Type} (s : ByteArray) (gp k : Nat) (w : World) (x : E (α × R)) (V : α → Value → World → Prop) (e : Ending) (w' : World) : Prop := match x with
  | .ok (v, r) => ∃ val, e = .returned val ∧ V v val w' ∧ At s gp k w r w'
  | .error (p, c) => e = faultE ((s.size - p : Nat) : Int) c ∧ w.grownBy w' (some gp)
def OutU (s : ByteArray) (gp k : Nat) (w : World) (x : E R) (e : Ending) (w' : World) : Prop := match x with
  | .ok r => e = .returned (.tuple #[]) ∧ At s gp k w r w'
  | .error (p, c) => e = faultE ((s.size - p : Nat) : Int) c ∧ w.grownBy w' (some gp)
theorem fault_at {s : ByteArray} {j : Nat} (hj : j ≤ s.size) (c : Int) : faultE (j : Int) c = faultE ((s.size - (rem s j).length : Nat) : Int) c := by
  rw [rem_len, show s.size - (s.size - j) = j by omega]
theorem want_is (c : UInt8) (r : R) : wantS c r = if (isS c r).1 then .ok (isS c r).2 else .error ((isS c r).2.length, 180) := by
  unfold wantS isS
  cases skipS r with
  | nil => rfl
  | cons x t =>
    dsimp only
    split
    · rfl
    · rfl
set_option maxRecDepth 100000 in
set_option maxHeartbeats 4000000 in
theorem want_any (c : UInt8) (s : ByteArray) (gp k : Nat) (w : World) (h : Pa s gp k w) (hs : s.size ≤ 4096) : Calls Tryd.prog 62 #[.pointer (some ⟨gp, 0, none⟩), .int .u8 c.toNat] w (OutU s gp k w (wantS c (rem s k))) := by
  have HIS := Lib.hid (is_any c s gp k w h hs)
  obtain ⟨y, hy⟩ : ∃ y, isS c (rem s k) = y := ⟨_, rfl⟩
  obtain ⟨x, hx⟩ : ∃ x, wantS c (rem s k) = x := ⟨_, rfl⟩
  rw [hx]
  have HX : Hid (x = if y.1 then .ok y.2 else .error (y.2.length, 180)) := Lib.hid (by rw [← hx, want_is, hy])
  rw [hy] at HIS
  clear h hy hx
  obtain ⟨b, r⟩ := y
  go_enter Tryd.func62, Tryd.ntmps62
  go_wp2_with fail
  refine HIS.out.mono ?_
  rintro e wr ⟨rfl, hg, j, hkj, hp, hrem⟩
  have HG := Lib.hid hg; have HJ := Lib.hid hp; have HR := Lib.hid hrem
  clear hg hp hrem HIS
  have hj := HJ.out.le
  cases b with
  | true =>
    obtain rfl : x = .ok r := HX.out
    go_wp2_with fail
    go_end0
    exact ⟨rfl, HG.out, j, hkj, HJ.out, HR.out⟩
  | false =>
    have c1 : wr.cell? ⟨gp, 1, none⟩ = some (.int .i64 j) := HJ.out.blk.cell 1
    have HWR := Lib.hid (wrong_any j wr)
    have HX2 : Hid (x = .error (r.length, 180)) := Lib.hid HX.out
    go_wp2_with fail
    refine HWR.out.mono ?_
    rintro e w2 ⟨rfl, rfl⟩
    refine ⟨rfl, ?_⟩
    rw [HX2.out, ← HR.out]
    exact ⟨fault_at hj 180, HG.out⟩
/-- A bool of a byte is answered, nothing else. -/
def LetQ (b : Bool) (w : World) (e : Ending) (w' : World) : Prop := e = .returned (.bool b) ∧ w' = w
set_option maxHeartbeats 4000000 in
theorem letter_any (c : UInt8) (w : World) : Calls Tryd.prog 69 #[.int .u8 c.toNat] w (LetQ (letB c) w) := by
  have key : letB c = true ∧ ((97 ≤ (c.toNat : Int) ∧ (c.toNat : Int) ≤ 122) ∨ (48 ≤ (c.toNat : Int) ∧ (c.toNat : Int) ≤ 57) ∨ (c.toNat : Int) = 95) ∨ letB c = false ∧ ¬ ((97 ≤ (c.toNat : Int) ∧ (c.toNat : Int) ≤ 122) ∨ (48 ≤ (c.toNat : Int) ∧ (c.toNat : Int) ≤ 57) ∨ (c.toNat : Int) = 95) := by
    have h95 : c = 95 ↔ c.toNat = 95 := ⟨fun h => by rw [h]; rfl, fun h => UInt8.toNat_inj.1 h⟩
    cases h : letB c with
    | true =>
      left
      simp only [letB, digB, Bool.or_eq_true, decide_eq_true_eq, h95] at h
      exact ⟨rfl, by omega⟩
    | false =>
      right
      simp only [letB, digB, Bool.or_eq_false_iff, decide_eq_false_iff_not, h95] at h
      exact ⟨rfl, by omega⟩
  generalize letB c = b at *
  have hlt := c.toNat_lt
  generalize (c.toNat : Int) = n at *
  go_enter Tryd.func69, Tryd.ntmps69
  go_wp2_with fail
  all_goals
    go_ret
    refine ⟨?_, rfl⟩
    show Ending.returned (.bool _) = Ending.returned (.bool b)
    refine ret_bool ?_
    rcases key with ⟨rfl, hk⟩ | ⟨rfl, hk⟩ <;> first | rfl | omega | (simp; omega) | (rw [Bool.eq_iff_iff]; simp; omega)
/-- What run takes, and where it begins. -/
def RunB (s : ByteArray) (gp k : Nat) (w : World) (t : R) (p : Nat) (r : R) (e : Ending) (w' : World) : Prop := e = .returned (.tuple #[.string (QryP.bytes t), .int .i64 p]) ∧ At s gp k w r w'
theorem ext_bytes {s : ByteArray} {a b : Nat} (h : a ≤ b) (hb : b ≤ s.size) : s.extract a b = QryP.bytes ((rem s a).take (b - a)) := by
  apply ByteArray.ext
  apply Array.ext'
  simp [QryP.bytes, rem, ByteArray.data_extract]
  try (rw [List.extract_eq_drop_take])
theorem let_rem {s : ByteArray} {k : Nat} (h : k < s.size) : (rem s k).takeWhile letB = (if letB s[k] then s[k] :: (rem s (k + 1)).takeWhile letB else []) ∧ (rem s k).dropWhile letB = (if letB s[k] then (rem s (k + 1)).dropWhile letB else rem s k) := by
  rw [rem_cons h, List.takeWhile_cons, List.dropWhile_cons]
  exact ⟨rfl, rfl⟩
set_option maxRecDepth 100000 in
set_option maxHeartbeats 8000000 in
theorem run_any (s : ByteArray) (gp k : Nat) (w : World) (h : Pa s gp k w) (hs : s.size ≤ 4096) : Calls Tryd.prog 68 #[.pointer (some ⟨gp, 0, none⟩), .func (.func 69) #[] #[]] w (RunB s gp k w ((skipS (rem s k)).takeWhile letB) (s.size - (skipS (rem s k)).length) ((skipS (rem s k)).dropWhile letB)) := by
  have HSK := Lib.hid (skip_any s gp k w h hs)
  clear h
  generalize skipS (rem s k) = r at *
  obtain ⟨tk, htk⟩ : ∃ x, r.takeWhile letB = x := ⟨_, rfl⟩
  obtain ⟨dk, hdk⟩ : ∃ x, r.dropWhile letB = x := ⟨_, rfl⟩
  rw [htk, hdk]
  have HTK := Lib.hid htk; have HDK := Lib.hid hdk
  clear htk hdk
  go_enter Tryd.func68, Tryd.ntmps68
  go_wp2_with fail
  refine HSK.out.mono ?_
  rintro e w1 ⟨rfl, hg, j0, hkj, hp, hrem⟩
  have HG1 := Lib.hid hg; have HJ1 := Lib.hid hp; have HR1 := Lib.hid hrem
  have hj0 := HJ1.out.le
  have HP0 : Hid (s.size - r.length = j0) := Lib.hid (by rw [← HR1.out, rem_len]; omega)
  have c1 : w1.cell? ⟨gp, 1, none⟩ = some (.int .i64 j0) := HJ1.out.blk.cell 1
  clear hg hp hrem HSK
  go_wp2_with fail
  have H0 : Hid (w.grownBy w1 (some gp) ∧ (r.take (j0 - j0) ++ (rem s j0).takeWhile letB = tk ∧ (rem s j0).dropWhile letB = dk)) := Lib.hid ⟨HG1.out, by rw [HR1.out, Nat.sub_self, List.take_zero]; exact HTK.out, by rw [HR1.out]; exact HDK.out⟩
  go_loopg [] (s.size - j0) (fun n wr => ∃ j : Nat, j0 ≤ j ∧ j ≤ s.size ∧ n = s.size - j ∧ Hid (Pa s gp j wr) ∧ Hid (w.grownBy wr (some gp) ∧ (r.take (j - j0) ++ (rem s j).takeWhile letB = tk ∧ (rem s j).dropWhile letB = dk)))
  case atStart => exact ⟨j0, Nat.le_refl _, hj0, rfl, HJ1, H0⟩
  case round =>
    clear c1
    obtain ⟨j, hkj2, hj, rfl, HJ, HE⟩ := hrel
    by_cases hlt : j < s.size
    · have c0 : wr.cell? ⟨gp, 0, none⟩ = some (.string s) := HJ.out.blk.cell 0
      have c1 : wr.cell? ⟨gp, 1, none⟩ = some (.int .i64 j) := HJ.out.blk.cell 1
      have z1 : wr.frozen? ⟨gp, 1, none⟩ = false := HJ.out.blk.frozen 1
      have h1 : (0 : Int) ≤ (j : Int) := by omega
      have h2 : (j : Int) < (s.size : Int) := by omega
      have HS := Lib.hid (let_rem hlt)
      have HTA : Hid (r.take (j + 1 - j0) = r.take (j - j0) ++ [s[j]]) := Lib.hid (by
        have hl : j - j0 < r.length := by rw [← HR1.out, rem_len]; omega
        rw [show j + 1 - j0 = j - j0 + 1 by omega, List.take_succ_eq_append_getElem hl]
        congr 2
        have : r[j - j0] = (rem s j0)[j - j0]'(by rw [HR1.out]; exact hl) := by simp [HR1.out]
        rw [this]
        simp only [rem, List.getElem_drop]
        simp [show j0 + (j - j0) = j by omega]
        rfl)
      have HL := Lib.hid (fun W => letter_any s[j] W)
      generalize hlb : letB s[j] = b at *
      clear hlb
      cases b with
      | true =>
        go_upto_region 3 with fail
        go_quiet ((go_at_call 69; exact Calls.quiet_of_same (HL.out _)))
        go_wp2_with fail
        have HN : Hid (Pa s gp (j + 1) ((wr.drewN nq).setCell ⟨gp, 1, none⟩ (.int .i64 (j + 1)))) := Lib.hid ((HJ.out.drewN nq).next 1 hlt _ (by omega))
        have HG : Hid (w.grownBy ((wr.drewN nq).setCell ⟨gp, 1, none⟩ (.int .i64 (j + 1))) (some gp) ∧ (r.take (j + 1 - j0) ++ (rem s (j + 1)).takeWhile letB = tk ∧ (rem s (j + 1)).dropWhile letB = dk)) := Lib.hid ⟨grown_next (only_drewN HE.out.1 nq) 1 _, by
          have := HE.out.2.1
          rw [HS.out.1] at this
          rw [HTA.out, ← this]; simp, by
          have := HE.out.2.2
          rw [HS.out.2] at this
          exact this⟩
        go_roundg (s.size - (j + 1))
        case measure => omega
        case rel => exact ⟨j + 1, by omega, by omega, rfl, HN, HG⟩
      | false =>
        have HT : Hid (r.take (j - j0) = tk ∧ rem s j = dk) := Lib.hid ⟨by
          have := HE.out.2.1
          rw [HS.out.1] at this
          simpa using this, by
          have := HE.out.2.2
          rw [HS.out.2] at this
          exact this⟩
        go_upto_region 3 with fail
        go_quiet ((go_at_call 69; exact Calls.quiet_of_same (HL.out _)))
        go_upto_region 5 with fail
        have h3 : (0 : Int) ≤ (j0 : Int) := by omega
        have h4 : (j0 : Int) ≤ (j : Int) := by omega
        have h5 : (j : Int) ≤ (s.size : Int) := by omega
        go_quiet (fail)
        go_wp2_with fail
        go_ret2
        exact ⟨by rw [HP0.out, ext_bytes hkj2 hj, HR1.out, HT.out.1]; rfl, only_drewN (only_drewN HE.out.1 _) _, j, by omega, (HJ.out.drewN _).drewN _, HT.out.2⟩
    · obtain rfl : j = s.size := by omega
      have c0 : wr.cell? ⟨gp, 0, none⟩ = some (.string s) := HJ.out.blk.cell 0
      have c1 : wr.cell? ⟨gp, 1, none⟩ = some (.int .i64 s.size) := HJ.out.blk.cell 1
      have h3 : (0 : Int) ≤ (j0 : Int) := by omega
      have h4 : (j0 : Int) ≤ (s.size : Int) := by omega
      have HT : Hid (r.take (s.size - j0) = tk ∧ rem s s.size = dk) := Lib.hid ⟨by
        have := HE.out.2.1
        rw [rem_nil] at this
        simpa using this, by
        have := HE.out.2.2
        rw [rem_nil] at this ⊢
        exact this⟩
      go_upto_region 3 with fail
      go_quiet (fail)
      go_upto_region 5 with fail
      go_quiet (fail)
      go_wp2_with fail
      go_ret2
      exact ⟨by rw [HP0.out, ext_bytes hkj2 (Nat.le_refl _), HR1.out, HT.out.1]; rfl, only_drewN (only_drewN HE.out.1 _) _, s.size, by omega, (HJ.out.drewN _).drewN _, HT.out.2⟩
end Go.Proofs.YtinmiekbhoemjaaDoor.Qry
