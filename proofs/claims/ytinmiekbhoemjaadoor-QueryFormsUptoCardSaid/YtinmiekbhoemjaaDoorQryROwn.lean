/- Contract: the document's Own at the kinds 1 .. 5. Written by gen_rown.py. -/
import Derived.Test.YtinmiekbhoemjaaDoorQryOwnA
set_option linter.unusedVariables false
namespace Go.Proofs.YtinmiekbhoemjaaDoor.Qry
open Go.RowKit Words Tree QryP Kit Sch SchP
section
variable (k oc : Int) (f t u : ByteArray) (lo hi : List Int) (ks : List QT) (L H K : Option Addr) (cl ch ck : Nat) (b op under : Int) (w : World)
set_option maxRecDepth 100000 in
set_option maxHeartbeats 32000000 in
theorem rown_1_0 (ho : occB under oc = true ∧ under = 8 ∧ 1 ≤ oc ∧ oc ≤ 4) (hf : f.size ≤ 140737488351232) :
    Calls Tryd.prog 39 #[.agg #[.int .i64 1, .int .i64 oc, .string f, .string t, .string u, .slice L lo.length cl, .slice H hi.length ch, .int .i64 b, .int .i64 op, .slice K ks.length ck], .int .i64 under] w (AnsB (ownB (.mk 1 oc f t u lo hi b op ks) under) w) := by
  have HN := Lib.hid (fun W => refName_any f W hf)
  have hfl := own_flat (k := 1) (oc := oc) (f := f) (t := t) (u := u) (lo := lo) (hi := hi) (b := b) (op := op) (under := under) (ks := ks)
  obtain ⟨r, hr⟩ : ∃ r, ownB (.mk 1 oc f t u lo hi b op ks) under = r := ⟨_, rfl⟩
  rw [hr] at hfl ⊢
  clear hr
  obtain ⟨hocc, h1, h2, h3⟩ := ho
  subst h1
  have d1 : decide (oc < 1) = false := decide_eq_false (by omega)
  have d2 : decide (4 < oc) = false := decide_eq_false (by omega)
  rw [hocc] at hfl
  have HR := Lib.hid hfl
  clear hfl hocc
  generalize lo.length = nl at *
  generalize hi.length = nh at *
  generalize ks.length = nk at *
  have HNF : Hid (nameB f = true → ¬ f.size = 0) := Lib.hid (fun h => by simp only [nameB, Bool.and_eq_true, decide_eq_true_eq] at h; omega)
  generalize nameB f = nb at *
  go_enter Tryd.func39, Tryd.ntmps39
  go_wp2_with fail
  refine (HN.out _).mono ?_
  rintro e W1 ⟨rfl, hb⟩
  have HB := Lib.hid (((Below.refl _ w).alloc (Nat.le_refl _) _).trans (hb.mono (by simp)))
  obtain ⟨c0, c1, c2, c3, c4, c5, c6, c7, c8, c9⟩ := tenB ((Blk.new w _ _).below hb (by simp))
  clear hb
  cases nb
  all_goals
    go_wp2_with fail
    all_goals
      go_ret
      refine ⟨?_, HB.out⟩
      rw [HR.out]
      clear c0 c1 c2 c3 c4 c5 c6 c7 c8 c9 HR HN
      first | have hf0 := HNF.out rfl | have hf0 := HNF.out
      clear HNF
      simp_all [size_nil] <;> first | (intros; omega) | (rw [Bool.eq_iff_iff]; simp; done) | (intros; contradiction) | (intros; simp_all; done) | (intros; simp_all; omega) | (rw [Bool.eq_iff_iff]; simp; omega) | (rw [Bool.eq_iff_iff]; simp; intros; omega)
set_option maxRecDepth 100000 in
set_option maxHeartbeats 32000000 in
theorem rown_1_1 (ho : occB under oc = true ∧ ¬ under = 8 ∧ oc = 0) (hf : f.size ≤ 140737488351232) :
    Calls Tryd.prog 39 #[.agg #[.int .i64 1, .int .i64 oc, .string f, .string t, .string u, .slice L lo.length cl, .slice H hi.length ch, .int .i64 b, .int .i64 op, .slice K ks.length ck], .int .i64 under] w (AnsB (ownB (.mk 1 oc f t u lo hi b op ks) under) w) := by
  have HN := Lib.hid (fun W => refName_any f W hf)
  have hfl := own_flat (k := 1) (oc := oc) (f := f) (t := t) (u := u) (lo := lo) (hi := hi) (b := b) (op := op) (under := under) (ks := ks)
  obtain ⟨r, hr⟩ : ∃ r, ownB (.mk 1 oc f t u lo hi b op ks) under = r := ⟨_, rfl⟩
  rw [hr] at hfl ⊢
  clear hr
  obtain ⟨hocc, h1, h2⟩ := ho
  subst h2
  have d1 : (under == 8) = false := by simpa using h1
  have d2 : (under != 8) = true := by simpa using h1
  clear h1
  rw [hocc] at hfl
  have HR := Lib.hid hfl
  clear hfl hocc
  generalize lo.length = nl at *
  generalize hi.length = nh at *
  generalize ks.length = nk at *
  have HNF : Hid (nameB f = true → ¬ f.size = 0) := Lib.hid (fun h => by simp only [nameB, Bool.and_eq_true, decide_eq_true_eq] at h; omega)
  generalize nameB f = nb at *
  go_enter Tryd.func39, Tryd.ntmps39
  go_wp2_with fail
  refine (HN.out _).mono ?_
  rintro e W1 ⟨rfl, hb⟩
  have HB := Lib.hid (((Below.refl _ w).alloc (Nat.le_refl _) _).trans (hb.mono (by simp)))
  obtain ⟨c0, c1, c2, c3, c4, c5, c6, c7, c8, c9⟩ := tenB ((Blk.new w _ _).below hb (by simp))
  clear hb
  cases nb
  all_goals
    go_wp2_with fail
    all_goals
      go_ret
      refine ⟨?_, HB.out⟩
      rw [HR.out]
      clear c0 c1 c2 c3 c4 c5 c6 c7 c8 c9 HR HN
      first | have hf0 := HNF.out rfl | have hf0 := HNF.out
      clear HNF
      simp_all [size_nil] <;> first | (intros; omega) | (rw [Bool.eq_iff_iff]; simp; done) | (intros; contradiction) | (intros; simp_all; done) | (intros; simp_all; omega) | (rw [Bool.eq_iff_iff]; simp; omega) | (rw [Bool.eq_iff_iff]; simp; intros; omega)
set_option maxRecDepth 100000 in
set_option maxHeartbeats 32000000 in
theorem rown_2_0 (ho : occB under oc = true ∧ under = 8 ∧ 1 ≤ oc ∧ oc ≤ 4) (hf : f.size ≤ 140737488351232) :
    Calls Tryd.prog 39 #[.agg #[.int .i64 2, .int .i64 oc, .string f, .string t, .string u, .slice L lo.length cl, .slice H hi.length ch, .int .i64 b, .int .i64 op, .slice K ks.length ck], .int .i64 under] w (AnsB (ownB (.mk 2 oc f t u lo hi b op ks) under) w) := by
  have HN := Lib.hid (fun W => refName_any f W hf)
  have hfl := own_flat (k := 2) (oc := oc) (f := f) (t := t) (u := u) (lo := lo) (hi := hi) (b := b) (op := op) (under := under) (ks := ks)
  obtain ⟨r, hr⟩ : ∃ r, ownB (.mk 2 oc f t u lo hi b op ks) under = r := ⟨_, rfl⟩
  rw [hr] at hfl ⊢
  clear hr
  obtain ⟨hocc, h1, h2, h3⟩ := ho
  subst h1
  have d1 : decide (oc < 1) = false := decide_eq_false (by omega)
  have d2 : decide (4 < oc) = false := decide_eq_false (by omega)
  rw [hocc] at hfl
  have HR := Lib.hid hfl
  clear hfl hocc
  generalize lo.length = nl at *
  generalize hi.length = nh at *
  generalize ks.length = nk at *
  have HNF : Hid (nameB f = true → ¬ f.size = 0) := Lib.hid (fun h => by simp only [nameB, Bool.and_eq_true, decide_eq_true_eq] at h; omega)
  generalize nameB f = nb at *
  go_enter Tryd.func39, Tryd.ntmps39
  go_wp2_with fail
  refine (HN.out _).mono ?_
  rintro e W1 ⟨rfl, hb⟩
  have HB := Lib.hid (((Below.refl _ w).alloc (Nat.le_refl _) _).trans (hb.mono (by simp)))
  obtain ⟨c0, c1, c2, c3, c4, c5, c6, c7, c8, c9⟩ := tenB ((Blk.new w _ _).below hb (by simp))
  clear hb
  cases nb
  all_goals
    go_wp2_with fail
    all_goals
      go_ret
      refine ⟨?_, HB.out⟩
      rw [HR.out]
      clear c0 c1 c2 c3 c4 c5 c6 c7 c8 c9 HR HN
      first | have hf0 := HNF.out rfl | have hf0 := HNF.out
      clear HNF
      simp_all [size_nil] <;> first | (intros; omega) | (rw [Bool.eq_iff_iff]; simp; done) | (intros; contradiction) | (intros; simp_all; done) | (intros; simp_all; omega) | (rw [Bool.eq_iff_iff]; simp; omega) | (rw [Bool.eq_iff_iff]; simp; intros; omega)
set_option maxRecDepth 100000 in
set_option maxHeartbeats 32000000 in
theorem rown_2_1 (ho : occB under oc = true ∧ ¬ under = 8 ∧ oc = 0) (hf : f.size ≤ 140737488351232) :
    Calls Tryd.prog 39 #[.agg #[.int .i64 2, .int .i64 oc, .string f, .string t, .string u, .slice L lo.length cl, .slice H hi.length ch, .int .i64 b, .int .i64 op, .slice K ks.length ck], .int .i64 under] w (AnsB (ownB (.mk 2 oc f t u lo hi b op ks) under) w) := by
  have HN := Lib.hid (fun W => refName_any f W hf)
  have hfl := own_flat (k := 2) (oc := oc) (f := f) (t := t) (u := u) (lo := lo) (hi := hi) (b := b) (op := op) (under := under) (ks := ks)
  obtain ⟨r, hr⟩ : ∃ r, ownB (.mk 2 oc f t u lo hi b op ks) under = r := ⟨_, rfl⟩
  rw [hr] at hfl ⊢
  clear hr
  obtain ⟨hocc, h1, h2⟩ := ho
  subst h2
  have d1 : (under == 8) = false := by simpa using h1
  have d2 : (under != 8) = true := by simpa using h1
  clear h1
  rw [hocc] at hfl
  have HR := Lib.hid hfl
  clear hfl hocc
  generalize lo.length = nl at *
  generalize hi.length = nh at *
  generalize ks.length = nk at *
  have HNF : Hid (nameB f = true → ¬ f.size = 0) := Lib.hid (fun h => by simp only [nameB, Bool.and_eq_true, decide_eq_true_eq] at h; omega)
  generalize nameB f = nb at *
  go_enter Tryd.func39, Tryd.ntmps39
  go_wp2_with fail
  refine (HN.out _).mono ?_
  rintro e W1 ⟨rfl, hb⟩
  have HB := Lib.hid (((Below.refl _ w).alloc (Nat.le_refl _) _).trans (hb.mono (by simp)))
  obtain ⟨c0, c1, c2, c3, c4, c5, c6, c7, c8, c9⟩ := tenB ((Blk.new w _ _).below hb (by simp))
  clear hb
  cases nb
  all_goals
    go_wp2_with fail
    all_goals
      go_ret
      refine ⟨?_, HB.out⟩
      rw [HR.out]
      clear c0 c1 c2 c3 c4 c5 c6 c7 c8 c9 HR HN
      first | have hf0 := HNF.out rfl | have hf0 := HNF.out
      clear HNF
      simp_all [size_nil] <;> first | (intros; omega) | (rw [Bool.eq_iff_iff]; simp; done) | (intros; contradiction) | (intros; simp_all; done) | (intros; simp_all; omega) | (rw [Bool.eq_iff_iff]; simp; omega) | (rw [Bool.eq_iff_iff]; simp; intros; omega)
set_option maxRecDepth 100000 in
set_option maxHeartbeats 32000000 in
theorem rown_3_0 (ho : occB under oc = true ∧ under = 8 ∧ 1 ≤ oc ∧ oc ≤ 4) (hf : f.size ≤ 140737488351232) :
    Calls Tryd.prog 39 #[.agg #[.int .i64 3, .int .i64 oc, .string f, .string t, .string u, .slice L lo.length cl, .slice H hi.length ch, .int .i64 b, .int .i64 op, .slice K ks.length ck], .int .i64 under] w (AnsB (ownB (.mk 3 oc f t u lo hi b op ks) under) w) := by
  have HN := Lib.hid (fun W => refName_any f W hf)
  have hfl := own_flat (k := 3) (oc := oc) (f := f) (t := t) (u := u) (lo := lo) (hi := hi) (b := b) (op := op) (under := under) (ks := ks)
  obtain ⟨r, hr⟩ : ∃ r, ownB (.mk 3 oc f t u lo hi b op ks) under = r := ⟨_, rfl⟩
  rw [hr] at hfl ⊢
  clear hr
  obtain ⟨hocc, h1, h2, h3⟩ := ho
  subst h1
  have d1 : decide (oc < 1) = false := decide_eq_false (by omega)
  have d2 : decide (4 < oc) = false := decide_eq_false (by omega)
  rw [hocc] at hfl
  have HR := Lib.hid hfl
  clear hfl hocc
  generalize lo.length = nl at *
  generalize hi.length = nh at *
  generalize ks.length = nk at *
  have HNF : Hid (nameB f = true → ¬ f.size = 0) := Lib.hid (fun h => by simp only [nameB, Bool.and_eq_true, decide_eq_true_eq] at h; omega)
  generalize nameB f = nb at *
  go_enter Tryd.func39, Tryd.ntmps39
  go_wp2_with fail
  refine (HN.out _).mono ?_
  rintro e W1 ⟨rfl, hb⟩
  have HB := Lib.hid (((Below.refl _ w).alloc (Nat.le_refl _) _).trans (hb.mono (by simp)))
  obtain ⟨c0, c1, c2, c3, c4, c5, c6, c7, c8, c9⟩ := tenB ((Blk.new w _ _).below hb (by simp))
  clear hb
  cases nb
  all_goals
    go_wp2_with fail
    all_goals
      go_ret
      refine ⟨?_, HB.out⟩
      rw [HR.out]
      clear c0 c1 c2 c3 c4 c5 c6 c7 c8 c9 HR HN
      first | have hf0 := HNF.out rfl | have hf0 := HNF.out
      clear HNF
      simp_all [size_nil] <;> first | (intros; omega) | (rw [Bool.eq_iff_iff]; simp; done) | (intros; contradiction) | (intros; simp_all; done) | (intros; simp_all; omega) | (rw [Bool.eq_iff_iff]; simp; omega) | (rw [Bool.eq_iff_iff]; simp; intros; omega)
set_option maxRecDepth 100000 in
set_option maxHeartbeats 32000000 in
theorem rown_3_1 (ho : occB under oc = true ∧ ¬ under = 8 ∧ oc = 0) (hf : f.size ≤ 140737488351232) :
    Calls Tryd.prog 39 #[.agg #[.int .i64 3, .int .i64 oc, .string f, .string t, .string u, .slice L lo.length cl, .slice H hi.length ch, .int .i64 b, .int .i64 op, .slice K ks.length ck], .int .i64 under] w (AnsB (ownB (.mk 3 oc f t u lo hi b op ks) under) w) := by
  have HN := Lib.hid (fun W => refName_any f W hf)
  have hfl := own_flat (k := 3) (oc := oc) (f := f) (t := t) (u := u) (lo := lo) (hi := hi) (b := b) (op := op) (under := under) (ks := ks)
  obtain ⟨r, hr⟩ : ∃ r, ownB (.mk 3 oc f t u lo hi b op ks) under = r := ⟨_, rfl⟩
  rw [hr] at hfl ⊢
  clear hr
  obtain ⟨hocc, h1, h2⟩ := ho
  subst h2
  have d1 : (under == 8) = false := by simpa using h1
  have d2 : (under != 8) = true := by simpa using h1
  clear h1
  rw [hocc] at hfl
  have HR := Lib.hid hfl
  clear hfl hocc
  generalize lo.length = nl at *
  generalize hi.length = nh at *
  generalize ks.length = nk at *
  have HNF : Hid (nameB f = true → ¬ f.size = 0) := Lib.hid (fun h => by simp only [nameB, Bool.and_eq_true, decide_eq_true_eq] at h; omega)
  generalize nameB f = nb at *
  go_enter Tryd.func39, Tryd.ntmps39
  go_wp2_with fail
  refine (HN.out _).mono ?_
  rintro e W1 ⟨rfl, hb⟩
  have HB := Lib.hid (((Below.refl _ w).alloc (Nat.le_refl _) _).trans (hb.mono (by simp)))
  obtain ⟨c0, c1, c2, c3, c4, c5, c6, c7, c8, c9⟩ := tenB ((Blk.new w _ _).below hb (by simp))
  clear hb
  cases nb
  all_goals
    go_wp2_with fail
    all_goals
      go_ret
      refine ⟨?_, HB.out⟩
      rw [HR.out]
      clear c0 c1 c2 c3 c4 c5 c6 c7 c8 c9 HR HN
      first | have hf0 := HNF.out rfl | have hf0 := HNF.out
      clear HNF
      simp_all [size_nil] <;> first | (intros; omega) | (rw [Bool.eq_iff_iff]; simp; done) | (intros; contradiction) | (intros; simp_all; done) | (intros; simp_all; omega) | (rw [Bool.eq_iff_iff]; simp; omega) | (rw [Bool.eq_iff_iff]; simp; intros; omega)
set_option maxRecDepth 100000 in
set_option maxHeartbeats 32000000 in
theorem rown_4_0 (ho : occB under oc = true ∧ under = 8 ∧ 1 ≤ oc ∧ oc ≤ 4) (hf : f.size ≤ 140737488351232) :
    Calls Tryd.prog 39 #[.agg #[.int .i64 4, .int .i64 oc, .string f, .string t, .string u, .slice L lo.length cl, .slice H hi.length ch, .int .i64 b, .int .i64 op, .slice K ks.length ck], .int .i64 under] w (AnsB (ownB (.mk 4 oc f t u lo hi b op ks) under) w) := by
  have HN := Lib.hid (fun W => refName_any f W hf)
  have hfl := own_flat (k := 4) (oc := oc) (f := f) (t := t) (u := u) (lo := lo) (hi := hi) (b := b) (op := op) (under := under) (ks := ks)
  obtain ⟨r, hr⟩ : ∃ r, ownB (.mk 4 oc f t u lo hi b op ks) under = r := ⟨_, rfl⟩
  rw [hr] at hfl ⊢
  clear hr
  obtain ⟨hocc, h1, h2, h3⟩ := ho
  subst h1
  have d1 : decide (oc < 1) = false := decide_eq_false (by omega)
  have d2 : decide (4 < oc) = false := decide_eq_false (by omega)
  rw [hocc] at hfl
  have HR := Lib.hid hfl
  clear hfl hocc
  generalize lo.length = nl at *
  generalize hi.length = nh at *
  generalize ks.length = nk at *
  have HNF : Hid (nameB f = true → ¬ f.size = 0) := Lib.hid (fun h => by simp only [nameB, Bool.and_eq_true, decide_eq_true_eq] at h; omega)
  generalize nameB f = nb at *
  go_enter Tryd.func39, Tryd.ntmps39
  go_wp2_with fail
  refine (HN.out _).mono ?_
  rintro e W1 ⟨rfl, hb⟩
  have HB := Lib.hid (((Below.refl _ w).alloc (Nat.le_refl _) _).trans (hb.mono (by simp)))
  obtain ⟨c0, c1, c2, c3, c4, c5, c6, c7, c8, c9⟩ := tenB ((Blk.new w _ _).below hb (by simp))
  clear hb
  cases nb
  all_goals
    go_wp2_with fail
    all_goals
      go_ret
      refine ⟨?_, HB.out⟩
      rw [HR.out]
      clear c0 c1 c2 c3 c4 c5 c6 c7 c8 c9 HR HN
      first | have hf0 := HNF.out rfl | have hf0 := HNF.out
      clear HNF
      simp_all [size_nil] <;> first | (intros; omega) | (rw [Bool.eq_iff_iff]; simp; done) | (intros; contradiction) | (intros; simp_all; done) | (intros; simp_all; omega) | (rw [Bool.eq_iff_iff]; simp; omega) | (rw [Bool.eq_iff_iff]; simp; intros; omega)
set_option maxRecDepth 100000 in
set_option maxHeartbeats 32000000 in
theorem rown_4_1 (ho : occB under oc = true ∧ ¬ under = 8 ∧ oc = 0) (hf : f.size ≤ 140737488351232) :
    Calls Tryd.prog 39 #[.agg #[.int .i64 4, .int .i64 oc, .string f, .string t, .string u, .slice L lo.length cl, .slice H hi.length ch, .int .i64 b, .int .i64 op, .slice K ks.length ck], .int .i64 under] w (AnsB (ownB (.mk 4 oc f t u lo hi b op ks) under) w) := by
  have HN := Lib.hid (fun W => refName_any f W hf)
  have hfl := own_flat (k := 4) (oc := oc) (f := f) (t := t) (u := u) (lo := lo) (hi := hi) (b := b) (op := op) (under := under) (ks := ks)
  obtain ⟨r, hr⟩ : ∃ r, ownB (.mk 4 oc f t u lo hi b op ks) under = r := ⟨_, rfl⟩
  rw [hr] at hfl ⊢
  clear hr
  obtain ⟨hocc, h1, h2⟩ := ho
  subst h2
  have d1 : (under == 8) = false := by simpa using h1
  have d2 : (under != 8) = true := by simpa using h1
  clear h1
  rw [hocc] at hfl
  have HR := Lib.hid hfl
  clear hfl hocc
  generalize lo.length = nl at *
  generalize hi.length = nh at *
  generalize ks.length = nk at *
  have HNF : Hid (nameB f = true → ¬ f.size = 0) := Lib.hid (fun h => by simp only [nameB, Bool.and_eq_true, decide_eq_true_eq] at h; omega)
  generalize nameB f = nb at *
  go_enter Tryd.func39, Tryd.ntmps39
  go_wp2_with fail
  refine (HN.out _).mono ?_
  rintro e W1 ⟨rfl, hb⟩
  have HB := Lib.hid (((Below.refl _ w).alloc (Nat.le_refl _) _).trans (hb.mono (by simp)))
  obtain ⟨c0, c1, c2, c3, c4, c5, c6, c7, c8, c9⟩ := tenB ((Blk.new w _ _).below hb (by simp))
  clear hb
  cases nb
  all_goals
    go_wp2_with fail
    all_goals
      go_ret
      refine ⟨?_, HB.out⟩
      rw [HR.out]
      clear c0 c1 c2 c3 c4 c5 c6 c7 c8 c9 HR HN
      first | have hf0 := HNF.out rfl | have hf0 := HNF.out
      clear HNF
      simp_all [size_nil] <;> first | (intros; omega) | (rw [Bool.eq_iff_iff]; simp; done) | (intros; contradiction) | (intros; simp_all; done) | (intros; simp_all; omega) | (rw [Bool.eq_iff_iff]; simp; omega) | (rw [Bool.eq_iff_iff]; simp; intros; omega)
set_option maxRecDepth 100000 in
set_option maxHeartbeats 32000000 in
theorem rown_5_0 (ho : occB under oc = true ∧ under = 8 ∧ 1 ≤ oc ∧ oc ≤ 4) (hf : f.size ≤ 140737488351232) :
    Calls Tryd.prog 39 #[.agg #[.int .i64 5, .int .i64 oc, .string f, .string t, .string u, .slice L lo.length cl, .slice H hi.length ch, .int .i64 b, .int .i64 op, .slice K ks.length ck], .int .i64 under] w (AnsB (ownB (.mk 5 oc f t u lo hi b op ks) under) w) := by
  have HN := Lib.hid (fun W => refName_any f W hf)
  have hfl := own_flat (k := 5) (oc := oc) (f := f) (t := t) (u := u) (lo := lo) (hi := hi) (b := b) (op := op) (under := under) (ks := ks)
  obtain ⟨r, hr⟩ : ∃ r, ownB (.mk 5 oc f t u lo hi b op ks) under = r := ⟨_, rfl⟩
  rw [hr] at hfl ⊢
  clear hr
  obtain ⟨hocc, h1, h2, h3⟩ := ho
  subst h1
  have d1 : decide (oc < 1) = false := decide_eq_false (by omega)
  have d2 : decide (4 < oc) = false := decide_eq_false (by omega)
  rw [hocc] at hfl
  have HR := Lib.hid hfl
  clear hfl hocc
  generalize lo.length = nl at *
  generalize hi.length = nh at *
  generalize ks.length = nk at *
  have HNF : Hid (nameB f = true → ¬ f.size = 0) := Lib.hid (fun h => by simp only [nameB, Bool.and_eq_true, decide_eq_true_eq] at h; omega)
  generalize nameB f = nb at *
  go_enter Tryd.func39, Tryd.ntmps39
  go_wp2_with fail
  refine (HN.out _).mono ?_
  rintro e W1 ⟨rfl, hb⟩
  have HB := Lib.hid (((Below.refl _ w).alloc (Nat.le_refl _) _).trans (hb.mono (by simp)))
  obtain ⟨c0, c1, c2, c3, c4, c5, c6, c7, c8, c9⟩ := tenB ((Blk.new w _ _).below hb (by simp))
  clear hb
  cases nb
  all_goals
    go_wp2_with fail
    all_goals
      go_ret
      refine ⟨?_, HB.out⟩
      rw [HR.out]
      clear c0 c1 c2 c3 c4 c5 c6 c7 c8 c9 HR HN
      first | have hf0 := HNF.out rfl | have hf0 := HNF.out
      clear HNF
      simp_all [size_nil] <;> first | (intros; omega) | (rw [Bool.eq_iff_iff]; simp; done) | (intros; contradiction) | (intros; simp_all; done) | (intros; simp_all; omega) | (rw [Bool.eq_iff_iff]; simp; omega) | (rw [Bool.eq_iff_iff]; simp; intros; omega)
set_option maxRecDepth 100000 in
set_option maxHeartbeats 32000000 in
theorem rown_5_1 (ho : occB under oc = true ∧ ¬ under = 8 ∧ oc = 0) (hf : f.size ≤ 140737488351232) :
    Calls Tryd.prog 39 #[.agg #[.int .i64 5, .int .i64 oc, .string f, .string t, .string u, .slice L lo.length cl, .slice H hi.length ch, .int .i64 b, .int .i64 op, .slice K ks.length ck], .int .i64 under] w (AnsB (ownB (.mk 5 oc f t u lo hi b op ks) under) w) := by
  have HN := Lib.hid (fun W => refName_any f W hf)
  have hfl := own_flat (k := 5) (oc := oc) (f := f) (t := t) (u := u) (lo := lo) (hi := hi) (b := b) (op := op) (under := under) (ks := ks)
  obtain ⟨r, hr⟩ : ∃ r, ownB (.mk 5 oc f t u lo hi b op ks) under = r := ⟨_, rfl⟩
  rw [hr] at hfl ⊢
  clear hr
  obtain ⟨hocc, h1, h2⟩ := ho
  subst h2
  have d1 : (under == 8) = false := by simpa using h1
  have d2 : (under != 8) = true := by simpa using h1
  clear h1
  rw [hocc] at hfl
  have HR := Lib.hid hfl
  clear hfl hocc
  generalize lo.length = nl at *
  generalize hi.length = nh at *
  generalize ks.length = nk at *
  have HNF : Hid (nameB f = true → ¬ f.size = 0) := Lib.hid (fun h => by simp only [nameB, Bool.and_eq_true, decide_eq_true_eq] at h; omega)
  generalize nameB f = nb at *
  go_enter Tryd.func39, Tryd.ntmps39
  go_wp2_with fail
  refine (HN.out _).mono ?_
  rintro e W1 ⟨rfl, hb⟩
  have HB := Lib.hid (((Below.refl _ w).alloc (Nat.le_refl _) _).trans (hb.mono (by simp)))
  obtain ⟨c0, c1, c2, c3, c4, c5, c6, c7, c8, c9⟩ := tenB ((Blk.new w _ _).below hb (by simp))
  clear hb
  cases nb
  all_goals
    go_wp2_with fail
    all_goals
      go_ret
      refine ⟨?_, HB.out⟩
      rw [HR.out]
      clear c0 c1 c2 c3 c4 c5 c6 c7 c8 c9 HR HN
      first | have hf0 := HNF.out rfl | have hf0 := HNF.out
      clear HNF
      simp_all [size_nil] <;> first | (intros; omega) | (rw [Bool.eq_iff_iff]; simp; done) | (intros; contradiction) | (intros; simp_all; done) | (intros; simp_all; omega) | (rw [Bool.eq_iff_iff]; simp; omega) | (rw [Bool.eq_iff_iff]; simp; intros; omega)
end
end Go.Proofs.YtinmiekbhoemjaaDoor.Qry
