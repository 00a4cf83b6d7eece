/- Contract: the document's Own at the kinds 6 .. 10 and at none. Written by gen_rown.py. Contract: the document's Own at any part. Written by gen_rown.py. -/
import Derived.Test.YtinmiekbhoemjaaGreatDoorPack14
import Derived.Test.YtinmiekbhoemjaaGreatDoorPack41
section
set_option linter.unusedVariables false
namespace Go.Proofs.YtinmiekbhoemjaaGreatDoor.Qry
open Go.RowKit Words Tree QryP Kit Sch SchP
section
variable (k oc : Int) (f t u : ByteArray) (lo hi : List Int) (ks : List QT) (L H K : Option Addr) (cl ch ck : Nat) (b op under : Int) (w : World)
set_option maxRecDepth 100000 in
set_option maxHeartbeats 32000000 in
theorem rown_6_0 (ho : occB under oc = true ∧ under = 8 ∧ 1 ≤ oc ∧ oc ≤ 4) (hf : f.size ≤ 140737488351232) :
    Calls Tryz.prog 41 #[.agg #[.int .i64 6, .int .i64 oc, .string f, .string t, .string u, .slice L lo.length cl, .slice H hi.length ch, .int .i64 b, .int .i64 op, .slice K ks.length ck], .int .i64 under] w (AnsB (ownB (.mk 6 oc f t u lo hi b op ks) under) w) := by
  have HN := Lib.hid (fun W => refName_any f W hf)
  have hfl := own_flat (k := 6) (oc := oc) (f := f) (t := t) (u := u) (lo := lo) (hi := hi) (b := b) (op := op) (under := under) (ks := ks)
  obtain ⟨r, hr⟩ : ∃ r, ownB (.mk 6 oc f t u lo hi b op ks) under = r := ⟨_, rfl⟩
  rw [hr] at hfl ⊢
  clear hr
  obtain ⟨hocc, h1, h2, h3⟩ := ho
  subst h1
  have d1 : decide (oc < 1) = false := decide_eq_false (by omega)
  have d2 : decide (4 < oc) = false := decide_eq_false (by omega)
  rw [hocc] at hfl
  have HR := Lib.hid hfl
  clear hfl hocc
  generalize lo.length = nl at *
  generalize hi.length = nh at *
  generalize ks.length = nk at *
  have HNF : Hid (nameB f = true → ¬ f.size = 0) := Lib.hid (fun h => by simp only [nameB, Bool.and_eq_true, decide_eq_true_eq] at h; omega)
  generalize nameB f = nb at *
  go_enter Tryz.func41, Tryz.ntmps41
  go_wp2_with fail
  refine (HN.out _).mono ?_
  rintro e W1 ⟨rfl, hb⟩
  have HB := Lib.hid (((Below.refl _ w).alloc (Nat.le_refl _) _).trans (hb.mono (by simp)))
  obtain ⟨c0, c1, c2, c3, c4, c5, c6, c7, c8, c9⟩ := tenB ((Blk.new w _ _).below hb (by simp))
  clear hb
  cases nb
  all_goals
    go_wp2_with fail
    all_goals
      go_ret
      refine ⟨?_, HB.out⟩
      rw [HR.out]
      clear c0 c1 c2 c3 c4 c5 c6 c7 c8 c9 HR HN
      first | have hf0 := HNF.out rfl | have hf0 := HNF.out
      clear HNF
      simp_all [size_nil] <;> first | (intros; omega) | (rw [Bool.eq_iff_iff]; simp; done) | (intros; contradiction) | (intros; simp_all; done) | (intros; simp_all; omega) | (rw [Bool.eq_iff_iff]; simp; omega) | (rw [Bool.eq_iff_iff]; simp; intros; omega)
set_option maxRecDepth 100000 in
set_option maxHeartbeats 32000000 in
theorem rown_6_1 (ho : occB under oc = true ∧ ¬ under = 8 ∧ oc = 0) (hf : f.size ≤ 140737488351232) :
    Calls Tryz.prog 41 #[.agg #[.int .i64 6, .int .i64 oc, .string f, .string t, .string u, .slice L lo.length cl, .slice H hi.length ch, .int .i64 b, .int .i64 op, .slice K ks.length ck], .int .i64 under] w (AnsB (ownB (.mk 6 oc f t u lo hi b op ks) under) w) := by
  have HN := Lib.hid (fun W => refName_any f W hf)
  have hfl := own_flat (k := 6) (oc := oc) (f := f) (t := t) (u := u) (lo := lo) (hi := hi) (b := b) (op := op) (under := under) (ks := ks)
  obtain ⟨r, hr⟩ : ∃ r, ownB (.mk 6 oc f t u lo hi b op ks) under = r := ⟨_, rfl⟩
  rw [hr] at hfl ⊢
  clear hr
  obtain ⟨hocc, h1, h2⟩ := ho
  subst h2
  have d1 : (under == 8) = false := by simpa using h1
  have d2 : (under != 8) = true := by simpa using h1
  clear h1
  rw [hocc] at hfl
  have HR := Lib.hid hfl
  clear hfl hocc
  generalize lo.length = nl at *
  generalize hi.length = nh at *
  generalize ks.length = nk at *
  have HNF : Hid (nameB f = true → ¬ f.size = 0) := Lib.hid (fun h => by simp only [nameB, Bool.and_eq_true, decide_eq_true_eq] at h; omega)
  generalize nameB f = nb at *
  go_enter Tryz.func41, Tryz.ntmps41
  go_wp2_with fail
  refine (HN.out _).mono ?_
  rintro e W1 ⟨rfl, hb⟩
  have HB := Lib.hid (((Below.refl _ w).alloc (Nat.le_refl _) _).trans (hb.mono (by simp)))
  obtain ⟨c0, c1, c2, c3, c4, c5, c6, c7, c8, c9⟩ := tenB ((Blk.new w _ _).below hb (by simp))
  clear hb
  cases nb
  all_goals
    go_wp2_with fail
    all_goals
      go_ret
      refine ⟨?_, HB.out⟩
      rw [HR.out]
      clear c0 c1 c2 c3 c4 c5 c6 c7 c8 c9 HR HN
      first | have hf0 := HNF.out rfl | have hf0 := HNF.out
      clear HNF
      simp_all [size_nil] <;> first | (intros; omega) | (rw [Bool.eq_iff_iff]; simp; done) | (intros; contradiction) | (intros; simp_all; done) | (intros; simp_all; omega) | (rw [Bool.eq_iff_iff]; simp; omega) | (rw [Bool.eq_iff_iff]; simp; intros; omega)
set_option maxRecDepth 100000 in
set_option maxHeartbeats 32000000 in
theorem rown_7_0 (ho : occB under oc = true ∧ under = 8 ∧ 1 ≤ oc ∧ oc ≤ 4) (hf : f.size ≤ 140737488351232) :
    Calls Tryz.prog 41 #[.agg #[.int .i64 7, .int .i64 oc, .string f, .string t, .string u, .slice L lo.length cl, .slice H hi.length ch, .int .i64 b, .int .i64 op, .slice K ks.length ck], .int .i64 under] w (AnsB (ownB (.mk 7 oc f t u lo hi b op ks) under) w) := by
  have HN := Lib.hid (fun W => refName_any f W hf)
  have hfl := own_flat (k := 7) (oc := oc) (f := f) (t := t) (u := u) (lo := lo) (hi := hi) (b := b) (op := op) (under := under) (ks := ks)
  obtain ⟨r, hr⟩ : ∃ r, ownB (.mk 7 oc f t u lo hi b op ks) under = r := ⟨_, rfl⟩
  rw [hr] at hfl ⊢
  clear hr
  obtain ⟨hocc, h1, h2, h3⟩ := ho
  subst h1
  have d1 : decide (oc < 1) = false := decide_eq_false (by omega)
  have d2 : decide (4 < oc) = false := decide_eq_false (by omega)
  rw [hocc] at hfl
  have HR := Lib.hid hfl
  clear hfl hocc
  generalize lo.length = nl at *
  generalize hi.length = nh at *
  generalize ks.length = nk at *
  have HNF : Hid (nameB f = true → ¬ f.size = 0) := Lib.hid (fun h => by simp only [nameB, Bool.and_eq_true, decide_eq_true_eq] at h; omega)
  generalize nameB f = nb at *
  go_enter Tryz.func41, Tryz.ntmps41
  go_wp2_with fail
  refine (HN.out _).mono ?_
  rintro e W1 ⟨rfl, hb⟩
  have HB := Lib.hid (((Below.refl _ w).alloc (Nat.le_refl _) _).trans (hb.mono (by simp)))
  obtain ⟨c0, c1, c2, c3, c4, c5, c6, c7, c8, c9⟩ := tenB ((Blk.new w _ _).below hb (by simp))
  clear hb
  cases nb
  all_goals
    go_wp2_with fail
    all_goals
      go_ret
      refine ⟨?_, HB.out⟩
      rw [HR.out]
      clear c0 c1 c2 c3 c4 c5 c6 c7 c8 c9 HR HN
      first | have hf0 := HNF.out rfl | have hf0 := HNF.out
      clear HNF
      simp_all [size_nil] <;> first | (intros; omega) | (rw [Bool.eq_iff_iff]; simp; done) | (intros; contradiction) | (intros; simp_all; done) | (intros; simp_all; omega) | (rw [Bool.eq_iff_iff]; simp; omega) | (rw [Bool.eq_iff_iff]; simp; intros; omega)
set_option maxRecDepth 100000 in
set_option maxHeartbeats 32000000 in
theorem rown_7_1 (ho : occB under oc = true ∧ ¬ under = 8 ∧ oc = 0) (hf : f.size ≤ 140737488351232) :
    Calls Tryz.prog 41 #[.agg #[.int .i64 7, .int .i64 oc, .string f, .string t, .string u, .slice L lo.length cl, .slice H hi.length ch, .int .i64 b, .int .i64 op, .slice K ks.length ck], .int .i64 under] w (AnsB (ownB (.mk 7 oc f t u lo hi b op ks) under) w) := by
  have HN := Lib.hid (fun W => refName_any f W hf)
  have hfl := own_flat (k := 7) (oc := oc) (f := f) (t := t) (u := u) (lo := lo) (hi := hi) (b := b) (op := op) (under := under) (ks := ks)
  obtain ⟨r, hr⟩ : ∃ r, ownB (.mk 7 oc f t u lo hi b op ks) under = r := ⟨_, rfl⟩
  rw [hr] at hfl ⊢
  clear hr
  obtain ⟨hocc, h1, h2⟩ := ho
  subst h2
  have d1 : (under == 8) = false := by simpa using h1
  have d2 : (under != 8) = true := by simpa using h1
  clear h1
  rw [hocc] at hfl
  have HR := Lib.hid hfl
  clear hfl hocc
  generalize lo.length = nl at *
  generalize hi.length = nh at *
  generalize ks.length = nk at *
  have HNF : Hid (nameB f = true → ¬ f.size = 0) := Lib.hid (fun h => by simp only [nameB, Bool.and_eq_true, decide_eq_true_eq] at h; omega)
  generalize nameB f = nb at *
  go_enter Tryz.func41, Tryz.ntmps41
  go_wp2_with fail
  refine (HN.out _).mono ?_
  rintro e W1 ⟨rfl, hb⟩
  have HB := Lib.hid (((Below.refl _ w).alloc (Nat.le_refl _) _).trans (hb.mono (by simp)))
  obtain ⟨c0, c1, c2, c3, c4, c5, c6, c7, c8, c9⟩ := tenB ((Blk.new w _ _).below hb (by simp))
  clear hb
  cases nb
  all_goals
    go_wp2_with fail
    all_goals
      go_ret
      refine ⟨?_, HB.out⟩
      rw [HR.out]
      clear c0 c1 c2 c3 c4 c5 c6 c7 c8 c9 HR HN
      first | have hf0 := HNF.out rfl | have hf0 := HNF.out
      clear HNF
      simp_all [size_nil] <;> first | (intros; omega) | (rw [Bool.eq_iff_iff]; simp; done) | (intros; contradiction) | (intros; simp_all; done) | (intros; simp_all; omega) | (rw [Bool.eq_iff_iff]; simp; omega) | (rw [Bool.eq_iff_iff]; simp; intros; omega)
set_option maxRecDepth 100000 in
set_option maxHeartbeats 32000000 in
theorem rown_8_0 (ho : occB under oc = true ∧ under = 8 ∧ 1 ≤ oc ∧ oc ≤ 4) (hf : f.size ≤ 140737488351232) :
    Calls Tryz.prog 41 #[.agg #[.int .i64 8, .int .i64 oc, .string f, .string t, .string u, .slice L lo.length cl, .slice H hi.length ch, .int .i64 b, .int .i64 op, .slice K ks.length ck], .int .i64 under] w (AnsB (ownB (.mk 8 oc f t u lo hi b op ks) under) w) := by
  have HN := Lib.hid (fun W => refName_any f W hf)
  have hfl := own_flat (k := 8) (oc := oc) (f := f) (t := t) (u := u) (lo := lo) (hi := hi) (b := b) (op := op) (under := under) (ks := ks)
  obtain ⟨r, hr⟩ : ∃ r, ownB (.mk 8 oc f t u lo hi b op ks) under = r := ⟨_, rfl⟩
  rw [hr] at hfl ⊢
  clear hr
  obtain ⟨hocc, h1, h2, h3⟩ := ho
  subst h1
  have d1 : decide (oc < 1) = false := decide_eq_false (by omega)
  have d2 : decide (4 < oc) = false := decide_eq_false (by omega)
  rw [hocc] at hfl
  have HR := Lib.hid hfl
  clear hfl hocc
  generalize lo.length = nl at *
  generalize hi.length = nh at *
  generalize ks.length = nk at *
  have HNF : Hid (nameB f = true → ¬ f.size = 0) := Lib.hid (fun h => by simp only [nameB, Bool.and_eq_true, decide_eq_true_eq] at h; omega)
  generalize nameB f = nb at *
  go_enter Tryz.func41, Tryz.ntmps41
  go_wp2_with fail
  refine (HN.out _).mono ?_
  rintro e W1 ⟨rfl, hb⟩
  have HB := Lib.hid (((Below.refl _ w).alloc (Nat.le_refl _) _).trans (hb.mono (by simp)))
  obtain ⟨c0, c1, c2, c3, c4, c5, c6, c7, c8, c9⟩ := tenB ((Blk.new w _ _).below hb (by simp))
  clear hb
  cases nb
  all_goals
    go_wp2_with fail
    all_goals
      go_ret
      refine ⟨?_, HB.out⟩
      rw [HR.out]
      clear c0 c1 c2 c3 c4 c5 c6 c7 c8 c9 HR HN
      first | have hf0 := HNF.out rfl | have hf0 := HNF.out
      clear HNF
      simp_all [size_nil] <;> first | (intros; omega) | (rw [Bool.eq_iff_iff]; simp; done) | (intros; contradiction) | (intros; simp_all; done) | (intros; simp_all; omega) | (rw [Bool.eq_iff_iff]; simp; omega) | (rw [Bool.eq_iff_iff]; simp; intros; omega)
set_option maxRecDepth 100000 in
set_option maxHeartbeats 32000000 in
theorem rown_8_1 (ho : occB under oc = true ∧ ¬ under = 8 ∧ oc = 0) (hf : f.size ≤ 140737488351232) :
    Calls Tryz.prog 41 #[.agg #[.int .i64 8, .int .i64 oc, .string f, .string t, .string u, .slice L lo.length cl, .slice H hi.length ch, .int .i64 b, .int .i64 op, .slice K ks.length ck], .int .i64 under] w (AnsB (ownB (.mk 8 oc f t u lo hi b op ks) under) w) := by
  have HN := Lib.hid (fun W => refName_any f W hf)
  have hfl := own_flat (k := 8) (oc := oc) (f := f) (t := t) (u := u) (lo := lo) (hi := hi) (b := b) (op := op) (under := under) (ks := ks)
  obtain ⟨r, hr⟩ : ∃ r, ownB (.mk 8 oc f t u lo hi b op ks) under = r := ⟨_, rfl⟩
  rw [hr] at hfl ⊢
  clear hr
  obtain ⟨hocc, h1, h2⟩ := ho
  subst h2
  have d1 : (under == 8) = false := by simpa using h1
  have d2 : (under != 8) = true := by simpa using h1
  clear h1
  rw [hocc] at hfl
  have HR := Lib.hid hfl
  clear hfl hocc
  generalize lo.length = nl at *
  generalize hi.length = nh at *
  generalize ks.length = nk at *
  have HNF : Hid (nameB f = true → ¬ f.size = 0) := Lib.hid (fun h => by simp only [nameB, Bool.and_eq_true, decide_eq_true_eq] at h; omega)
  generalize nameB f = nb at *
  go_enter Tryz.func41, Tryz.ntmps41
  go_wp2_with fail
  refine (HN.out _).mono ?_
  rintro e W1 ⟨rfl, hb⟩
  have HB := Lib.hid (((Below.refl _ w).alloc (Nat.le_refl _) _).trans (hb.mono (by simp)))
  obtain ⟨c0, c1, c2, c3, c4, c5, c6, c7, c8, c9⟩ := tenB ((Blk.new w _ _).below hb (by simp))
  clear hb
  cases nb
  all_goals
    go_wp2_with fail
    all_goals
      go_ret
      refine ⟨?_, HB.out⟩
      rw [HR.out]
      clear c0 c1 c2 c3 c4 c5 c6 c7 c8 c9 HR HN
      first | have hf0 := HNF.out rfl | have hf0 := HNF.out
      clear HNF
      simp_all [size_nil] <;> first | (intros; omega) | (rw [Bool.eq_iff_iff]; simp; done) | (intros; contradiction) | (intros; simp_all; done) | (intros; simp_all; omega) | (rw [Bool.eq_iff_iff]; simp; omega) | (rw [Bool.eq_iff_iff]; simp; intros; omega)
set_option maxRecDepth 100000 in
set_option maxHeartbeats 32000000 in
theorem rown_9_0 (ho : occB under oc = true ∧ under = 8 ∧ 1 ≤ oc ∧ oc ≤ 4) (hf : f.size ≤ 140737488351232) :
    Calls Tryz.prog 41 #[.agg #[.int .i64 9, .int .i64 oc, .string f, .string t, .string u, .slice L lo.length cl, .slice H hi.length ch, .int .i64 b, .int .i64 op, .slice K ks.length ck], .int .i64 under] w (AnsB (ownB (.mk 9 oc f t u lo hi b op ks) under) w) := by
  have HN := Lib.hid (fun W => refName_any f W hf)
  have hfl := own_flat (k := 9) (oc := oc) (f := f) (t := t) (u := u) (lo := lo) (hi := hi) (b := b) (op := op) (under := under) (ks := ks)
  obtain ⟨r, hr⟩ : ∃ r, ownB (.mk 9 oc f t u lo hi b op ks) under = r := ⟨_, rfl⟩
  rw [hr] at hfl ⊢
  clear hr
  obtain ⟨hocc, h1, h2, h3⟩ := ho
  subst h1
  have d1 : decide (oc < 1) = false := decide_eq_false (by omega)
  have d2 : decide (4 < oc) = false := decide_eq_false (by omega)
  rw [hocc] at hfl
  have HR := Lib.hid hfl
  clear hfl hocc
  generalize lo.length = nl at *
  generalize hi.length = nh at *
  generalize ks.length = nk at *
  have HNF : Hid (nameB f = true → ¬ f.size = 0) := Lib.hid (fun h => by simp only [nameB, Bool.and_eq_true, decide_eq_true_eq] at h; omega)
  generalize nameB f = nb at *
  go_enter Tryz.func41, Tryz.ntmps41
  go_wp2_with fail
  refine (HN.out _).mono ?_
  rintro e W1 ⟨rfl, hb⟩
  have HB := Lib.hid (((Below.refl _ w).alloc (Nat.le_refl _) _).trans (hb.mono (by simp)))
  obtain ⟨c0, c1, c2, c3, c4, c5, c6, c7, c8, c9⟩ := tenB ((Blk.new w _ _).below hb (by simp))
  clear hb
  cases nb
  all_goals
    go_wp2_with fail
    all_goals
      go_ret
      refine ⟨?_, HB.out⟩
      rw [HR.out]
      clear c0 c1 c2 c3 c4 c5 c6 c7 c8 c9 HR HN
      first | have hf0 := HNF.out rfl | have hf0 := HNF.out
      clear HNF
      simp_all [size_nil] <;> first | (intros; omega) | (rw [Bool.eq_iff_iff]; simp; done) | (intros; contradiction) | (intros; simp_all; done) | (intros; simp_all; omega) | (rw [Bool.eq_iff_iff]; simp; omega) | (rw [Bool.eq_iff_iff]; simp; intros; omega)
set_option maxRecDepth 100000 in
set_option maxHeartbeats 32000000 in
theorem rown_9_1 (ho : occB under oc = true ∧ ¬ under = 8 ∧ oc = 0) (hf : f.size ≤ 140737488351232) :
    Calls Tryz.prog 41 #[.agg #[.int .i64 9, .int .i64 oc, .string f, .string t, .string u, .slice L lo.length cl, .slice H hi.length ch, .int .i64 b, .int .i64 op, .slice K ks.length ck], .int .i64 under] w (AnsB (ownB (.mk 9 oc f t u lo hi b op ks) under) w) := by
  have HN := Lib.hid (fun W => refName_any f W hf)
  have hfl := own_flat (k := 9) (oc := oc) (f := f) (t := t) (u := u) (lo := lo) (hi := hi) (b := b) (op := op) (under := under) (ks := ks)
  obtain ⟨r, hr⟩ : ∃ r, ownB (.mk 9 oc f t u lo hi b op ks) under = r := ⟨_, rfl⟩
  rw [hr] at hfl ⊢
  clear hr
  obtain ⟨hocc, h1, h2⟩ := ho
  subst h2
  have d1 : (under == 8) = false := by simpa using h1
  have d2 : (under != 8) = true := by simpa using h1
  clear h1
  rw [hocc] at hfl
  have HR := Lib.hid hfl
  clear hfl hocc
  generalize lo.length = nl at *
  generalize hi.length = nh at *
  generalize ks.length = nk at *
  have HNF : Hid (nameB f = true → ¬ f.size = 0) := Lib.hid (fun h => by simp only [nameB, Bool.and_eq_true, decide_eq_true_eq] at h; omega)
  generalize nameB f = nb at *
  go_enter Tryz.func41, Tryz.ntmps41
  go_wp2_with fail
  refine (HN.out _).mono ?_
  rintro e W1 ⟨rfl, hb⟩
  have HB := Lib.hid (((Below.refl _ w).alloc (Nat.le_refl _) _).trans (hb.mono (by simp)))
  obtain ⟨c0, c1, c2, c3, c4, c5, c6, c7, c8, c9⟩ := tenB ((Blk.new w _ _).below hb (by simp))
  clear hb
  cases nb
  all_goals
    go_wp2_with fail
    all_goals
      go_ret
      refine ⟨?_, HB.out⟩
      rw [HR.out]
      clear c0 c1 c2 c3 c4 c5 c6 c7 c8 c9 HR HN
      first | have hf0 := HNF.out rfl | have hf0 := HNF.out
      clear HNF
      simp_all [size_nil] <;> first | (intros; omega) | (rw [Bool.eq_iff_iff]; simp; done) | (intros; contradiction) | (intros; simp_all; done) | (intros; simp_all; omega) | (rw [Bool.eq_iff_iff]; simp; omega) | (rw [Bool.eq_iff_iff]; simp; intros; omega)
set_option maxRecDepth 100000 in
set_option maxHeartbeats 32000000 in
theorem rown_10_0 (ho : occB under oc = true ∧ under = 8 ∧ 1 ≤ oc ∧ oc ≤ 4) (hf : f.size ≤ 140737488351232) :
    Calls Tryz.prog 41 #[.agg #[.int .i64 10, .int .i64 oc, .string f, .string t, .string u, .slice L lo.length cl, .slice H hi.length ch, .int .i64 b, .int .i64 op, .slice K ks.length ck], .int .i64 under] w (AnsB (ownB (.mk 10 oc f t u lo hi b op ks) under) w) := by
  have HN := Lib.hid (fun W => refName_any f W hf)
  have hfl := own_flat (k := 10) (oc := oc) (f := f) (t := t) (u := u) (lo := lo) (hi := hi) (b := b) (op := op) (under := under) (ks := ks)
  obtain ⟨r, hr⟩ : ∃ r, ownB (.mk 10 oc f t u lo hi b op ks) under = r := ⟨_, rfl⟩
  rw [hr] at hfl ⊢
  clear hr
  obtain ⟨hocc, h1, h2, h3⟩ := ho
  subst h1
  have d1 : decide (oc < 1) = false := decide_eq_false (by omega)
  have d2 : decide (4 < oc) = false := decide_eq_false (by omega)
  rw [hocc] at hfl
  have HR := Lib.hid hfl
  clear hfl hocc
  generalize lo.length = nl at *
  generalize hi.length = nh at *
  generalize ks.length = nk at *
  have HNF : Hid (nameB f = true → ¬ f.size = 0) := Lib.hid (fun h => by simp only [nameB, Bool.and_eq_true, decide_eq_true_eq] at h; omega)
  generalize nameB f = nb at *
  go_enter Tryz.func41, Tryz.ntmps41
  go_wp2_with fail
  refine (HN.out _).mono ?_
  rintro e W1 ⟨rfl, hb⟩
  have HB := Lib.hid (((Below.refl _ w).alloc (Nat.le_refl _) _).trans (hb.mono (by simp)))
  obtain ⟨c0, c1, c2, c3, c4, c5, c6, c7, c8, c9⟩ := tenB ((Blk.new w _ _).below hb (by simp))
  clear hb
  cases nb
  all_goals
    go_wp2_with fail
    all_goals
      go_ret
      refine ⟨?_, HB.out⟩
      rw [HR.out]
      clear c0 c1 c2 c3 c4 c5 c6 c7 c8 c9 HR HN
      first | have hf0 := HNF.out rfl | have hf0 := HNF.out
      clear HNF
      simp_all [size_nil] <;> first | (intros; omega) | (rw [Bool.eq_iff_iff]; simp; done) | (intros; contradiction) | (intros; simp_all; done) | (intros; simp_all; omega) | (rw [Bool.eq_iff_iff]; simp; omega) | (rw [Bool.eq_iff_iff]; simp; intros; omega)
set_option maxRecDepth 100000 in
set_option maxHeartbeats 32000000 in
theorem rown_10_1 (ho : occB under oc = true ∧ ¬ under = 8 ∧ oc = 0) (hf : f.size ≤ 140737488351232) :
    Calls Tryz.prog 41 #[.agg #[.int .i64 10, .int .i64 oc, .string f, .string t, .string u, .slice L lo.length cl, .slice H hi.length ch, .int .i64 b, .int .i64 op, .slice K ks.length ck], .int .i64 under] w (AnsB (ownB (.mk 10 oc f t u lo hi b op ks) under) w) := by
  have HN := Lib.hid (fun W => refName_any f W hf)
  have hfl := own_flat (k := 10) (oc := oc) (f := f) (t := t) (u := u) (lo := lo) (hi := hi) (b := b) (op := op) (under := under) (ks := ks)
  obtain ⟨r, hr⟩ : ∃ r, ownB (.mk 10 oc f t u lo hi b op ks) under = r := ⟨_, rfl⟩
  rw [hr] at hfl ⊢
  clear hr
  obtain ⟨hocc, h1, h2⟩ := ho
  subst h2
  have d1 : (under == 8) = false := by simpa using h1
  have d2 : (under != 8) = true := by simpa using h1
  clear h1
  rw [hocc] at hfl
  have HR := Lib.hid hfl
  clear hfl hocc
  generalize lo.length = nl at *
  generalize hi.length = nh at *
  generalize ks.length = nk at *
  have HNF : Hid (nameB f = true → ¬ f.size = 0) := Lib.hid (fun h => by simp only [nameB, Bool.and_eq_true, decide_eq_true_eq] at h; omega)
  generalize nameB f = nb at *
  go_enter Tryz.func41, Tryz.ntmps41
  go_wp2_with fail
  refine (HN.out _).mono ?_
  rintro e W1 ⟨rfl, hb⟩
  have HB := Lib.hid (((Below.refl _ w).alloc (Nat.le_refl _) _).trans (hb.mono (by simp)))
  obtain ⟨c0, c1, c2, c3, c4, c5, c6, c7, c8, c9⟩ := tenB ((Blk.new w _ _).below hb (by simp))
  clear hb
  cases nb
  all_goals
    go_wp2_with fail
    all_goals
      go_ret
      refine ⟨?_, HB.out⟩
      rw [HR.out]
      clear c0 c1 c2 c3 c4 c5 c6 c7 c8 c9 HR HN
      first | have hf0 := HNF.out rfl | have hf0 := HNF.out
      clear HNF
      simp_all [size_nil] <;> first | (intros; omega) | (rw [Bool.eq_iff_iff]; simp; done) | (intros; contradiction) | (intros; simp_all; done) | (intros; simp_all; omega) | (rw [Bool.eq_iff_iff]; simp; omega) | (rw [Bool.eq_iff_iff]; simp; intros; omega)
set_option maxRecDepth 100000 in
set_option maxHeartbeats 8000000 in
theorem rown_no_0 (ho : occB under oc = true ∧ under = 8 ∧ 1 ≤ oc ∧ oc ≤ 4) (hk : k < 1) :
    Calls Tryz.prog 41 #[.agg #[.int .i64 k, .int .i64 oc, .string f, .string t, .string u, .slice L lo.length cl, .slice H hi.length ch, .int .i64 b, .int .i64 op, .slice K ks.length ck], .int .i64 under] w (AnsB false w) := by
  obtain ⟨hocc, h1, h2, h3⟩ := ho
  subst h1
  have d1 : decide (oc < 1) = false := decide_eq_false (by omega)
  have d2 : decide (4 < oc) = false := decide_eq_false (by omega)
  have e1 : decide (k < 1) = true := decide_eq_true hk
  clear hocc hk
  go_enter Tryz.func41, Tryz.ntmps41
  go_wp2_with fail
  go_ret
  exact ⟨rfl, (Below.refl _ w).alloc (Nat.le_refl _) _⟩
set_option maxRecDepth 100000 in
set_option maxHeartbeats 8000000 in
theorem rown_no_1 (ho : occB under oc = true ∧ under = 8 ∧ 1 ≤ oc ∧ oc ≤ 4) (hk : 10 < k) :
    Calls Tryz.prog 41 #[.agg #[.int .i64 k, .int .i64 oc, .string f, .string t, .string u, .slice L lo.length cl, .slice H hi.length ch, .int .i64 b, .int .i64 op, .slice K ks.length ck], .int .i64 under] w (AnsB false w) := by
  obtain ⟨hocc, h1, h2, h3⟩ := ho
  subst h1
  have d1 : decide (oc < 1) = false := decide_eq_false (by omega)
  have d2 : decide (4 < oc) = false := decide_eq_false (by omega)
  have e1 : decide (k < 1) = false := decide_eq_false (by omega)
  have e2 : decide (10 < k) = true := decide_eq_true hk
  clear hocc hk
  go_enter Tryz.func41, Tryz.ntmps41
  go_wp2_with fail
  go_ret
  exact ⟨rfl, (Below.refl _ w).alloc (Nat.le_refl _) _⟩
set_option maxRecDepth 100000 in
set_option maxHeartbeats 8000000 in
theorem rown_no_2 (ho : occB under oc = true ∧ ¬ under = 8 ∧ oc = 0) (hk : k < 1) :
    Calls Tryz.prog 41 #[.agg #[.int .i64 k, .int .i64 oc, .string f, .string t, .string u, .slice L lo.length cl, .slice H hi.length ch, .int .i64 b, .int .i64 op, .slice K ks.length ck], .int .i64 under] w (AnsB false w) := by
  obtain ⟨hocc, h1, h2⟩ := ho
  subst h2
  have d1 : (under == 8) = false := by simpa using h1
  have d2 : (under != 8) = true := by simpa using h1
  clear h1
  have e1 : decide (k < 1) = true := decide_eq_true hk
  clear hocc hk
  go_enter Tryz.func41, Tryz.ntmps41
  go_wp2_with fail
  go_ret
  exact ⟨rfl, (Below.refl _ w).alloc (Nat.le_refl _) _⟩
set_option maxRecDepth 100000 in
set_option maxHeartbeats 8000000 in
theorem rown_no_3 (ho : occB under oc = true ∧ ¬ under = 8 ∧ oc = 0) (hk : 10 < k) :
    Calls Tryz.prog 41 #[.agg #[.int .i64 k, .int .i64 oc, .string f, .string t, .string u, .slice L lo.length cl, .slice H hi.length ch, .int .i64 b, .int .i64 op, .slice K ks.length ck], .int .i64 under] w (AnsB false w) := by
  obtain ⟨hocc, h1, h2⟩ := ho
  subst h2
  have d1 : (under == 8) = false := by simpa using h1
  have d2 : (under != 8) = true := by simpa using h1
  clear h1
  have e1 : decide (k < 1) = false := decide_eq_false (by omega)
  have e2 : decide (10 < k) = true := decide_eq_true hk
  clear hocc hk
  go_enter Tryz.func41, Tryz.ntmps41
  go_wp2_with fail
  go_ret
  exact ⟨rfl, (Below.refl _ w).alloc (Nat.le_refl _) _⟩
set_option maxRecDepth 100000 in
set_option maxHeartbeats 8000000 in
theorem rown_occ (ho : occB under oc = false) :
    Calls Tryz.prog 41 #[.agg #[.int .i64 k, .int .i64 oc, .string f, .string t, .string u, .slice L lo.length cl, .slice H hi.length ch, .int .i64 b, .int .i64 op, .slice K ks.length ck], .int .i64 under] w (AnsB false w) := by
  rcases occ_cases under oc with ⟨h, _⟩ | ⟨h, _⟩ | ⟨_, h1, h2⟩ | ⟨_, h1, h2⟩ | ⟨_, h1, h2⟩
  · rw [h] at ho; cases ho
  · rw [h] at ho; cases ho
  · subst h1
    have d1 : decide (oc < 1) = true := decide_eq_true h2
    clear ho
    go_enter Tryz.func41, Tryz.ntmps41
    go_wp2_with fail
    go_ret
    exact ⟨rfl, (Below.refl _ w).alloc (Nat.le_refl _) _⟩
  · subst h1
    have d1 : decide (oc < 1) = false := decide_eq_false (by omega)
    have d2 : decide (4 < oc) = true := decide_eq_true h2
    clear ho
    go_enter Tryz.func41, Tryz.ntmps41
    go_wp2_with fail
    go_ret
    exact ⟨rfl, (Below.refl _ w).alloc (Nat.le_refl _) _⟩
  · have d1 : (under == 8) = false := by simpa using h1
    have d2 : (under != 8) = true := by simpa using h1
    have d3 : (oc != 0) = true := by simpa using h2
    clear ho
    go_enter Tryz.func41, Tryz.ntmps41
    go_wp2_with fail
    go_ret
    exact ⟨rfl, (Below.refl _ w).alloc (Nat.le_refl _) _⟩
end
end Go.Proofs.YtinmiekbhoemjaaGreatDoor.Qry
end
section
set_option linter.unusedVariables false
namespace Go.Proofs.YtinmiekbhoemjaaGreatDoor.Qry
open Go.RowKit Words Tree QryP Kit Sch SchP
theorem rown_any (k oc : Int) (f t u : ByteArray) (lo hi : List Int) (b op : Int) (ks : List QT) (L H K : Option Addr) (cl ch ck : Nat) (under : Int) (w : World) (hf : f.size ≤ 140737488351232) :
    Calls Tryz.prog 41 #[.agg #[.int .i64 k, .int .i64 oc, .string f, .string t, .string u, .slice L lo.length cl, .slice H hi.length ch, .int .i64 b, .int .i64 op, .slice K ks.length ck], .int .i64 under] w (AnsB (ownB (.mk k oc f t u lo hi b op ks) under) w) := by
  have ho := occ_cases under oc
  by_cases h : occB under oc = true
  · rw [h] at ho
    have key : (occB under oc = true ∧ under = 8 ∧ 1 ≤ oc ∧ oc ≤ 4) ∨ (occB under oc = true ∧ ¬ under = 8 ∧ oc = 0) := by
      rcases ho with h1 | h1 | ⟨h1, _⟩ | ⟨h1, _⟩ | ⟨h1, _⟩
      · exact .inl ⟨h, h1.2⟩
      · exact .inr ⟨h, h1.2⟩
      all_goals cases h1
    have hk : k < 1 ∨ 10 < k ∨ k = 1 ∨ k = 2 ∨ k = 3 ∨ k = 4 ∨ k = 5 ∨ k = 6 ∨ k = 7 ∨ k = 8 ∨ k = 9 ∨ k = 10 := by omega
    rcases hk with hk | hk | rfl | rfl | rfl | rfl | rfl | rfl | rfl | rfl | rfl | rfl
    · rw [own_out (.inl hk)]
      rcases key with g | g
      · exact rown_no_0 k oc f t u lo hi ks L H K cl ch ck b op under w g hk
      · exact rown_no_2 k oc f t u lo hi ks L H K cl ch ck b op under w g hk
    · rw [own_out (.inr hk)]
      rcases key with g | g
      · exact rown_no_1 k oc f t u lo hi ks L H K cl ch ck b op under w g hk
      · exact rown_no_3 k oc f t u lo hi ks L H K cl ch ck b op under w g hk
    · rcases key with g | g
      · exact rown_1_0 oc f t u lo hi ks L H K cl ch ck b op under w g hf
      · exact rown_1_1 oc f t u lo hi ks L H K cl ch ck b op under w g hf
    · rcases key with g | g
      · exact rown_2_0 oc f t u lo hi ks L H K cl ch ck b op under w g hf
      · exact rown_2_1 oc f t u lo hi ks L H K cl ch ck b op under w g hf
    · rcases key with g | g
      · exact rown_3_0 oc f t u lo hi ks L H K cl ch ck b op under w g hf
      · exact rown_3_1 oc f t u lo hi ks L H K cl ch ck b op under w g hf
    · rcases key with g | g
      · exact rown_4_0 oc f t u lo hi ks L H K cl ch ck b op under w g hf
      · exact rown_4_1 oc f t u lo hi ks L H K cl ch ck b op under w g hf
    · rcases key with g | g
      · exact rown_5_0 oc f t u lo hi ks L H K cl ch ck b op under w g hf
      · exact rown_5_1 oc f t u lo hi ks L H K cl ch ck b op under w g hf
    · rcases key with g | g
      · exact rown_6_0 oc f t u lo hi ks L H K cl ch ck b op under w g hf
      · exact rown_6_1 oc f t u lo hi ks L H K cl ch ck b op under w g hf
    · rcases key with g | g
      · exact rown_7_0 oc f t u lo hi ks L H K cl ch ck b op under w g hf
      · exact rown_7_1 oc f t u lo hi ks L H K cl ch ck b op under w g hf
    · rcases key with g | g
      · exact rown_8_0 oc f t u lo hi ks L H K cl ch ck b op under w g hf
      · exact rown_8_1 oc f t u lo hi ks L H K cl ch ck b op under w g hf
    · rcases key with g | g
      · exact rown_9_0 oc f t u lo hi ks L H K cl ch ck b op under w g hf
      · exact rown_9_1 oc f t u lo hi ks L H K cl ch ck b op under w g hf
    · rcases key with g | g
      · exact rown_10_0 oc f t u lo hi ks L H K cl ch ck b op under w g hf
      · exact rown_10_1 oc f t u lo hi ks L H K cl ch ck b op under w g hf
  · have h0 : occB under oc = false := by simpa using h
    rw [own_off h0]
    exact rown_occ k oc f t u lo hi ks L H K cl ch ck b op under w h0
end Go.Proofs.YtinmiekbhoemjaaGreatDoor.Qry
end
