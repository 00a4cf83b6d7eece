/- Contract: which fields may be, whatever the others are (the program's may). Written by gen_may.py. -/
import Derived.Test.YtfckomjbgopmaaaGreatDoorSchKept
import Derived.Test.YtfckomjbgopmaaaGreatDoorPack11
set_option linter.unusedVariables false
namespace Go.Proofs.YtfckomjbgopmaaaGreatDoor.Sch
open Go.RowKit Words Tree SchP Kit Owned AnaP

theorem kind_ways (k : Int) : k = 1 ∨ k = 2 ∨ k = 3 ∨ k = 4 ∨ k = 5 ∨ ((k == 1) = false ∧ (k == 2) = false ∧ (k == 3) = false ∧ (k == 4) = false ∧ (k == 5) = false ∧ (k != 1) = true ∧ (k != 4) = true ∧ (k != 5) = true ∧ k ≠ 1 ∧ k ≠ 2 ∧ k ≠ 3 ∧ k ≠ 4 ∧ k ≠ 5) := by
  by_cases h1 : k = 1
  · exact .inl h1
  by_cases h2 : k = 2
  · exact .inr (.inl h2)
  by_cases h3 : k = 3
  · exact .inr (.inr (.inl h3))
  by_cases h4 : k = 4
  · exact .inr (.inr (.inr (.inl h4)))
  by_cases h5 : k = 5
  · exact .inr (.inr (.inr (.inr (.inl h5))))
  exact .inr (.inr (.inr (.inr (.inr ⟨by simpa using h1, by simpa using h2, by simpa using h3, by simpa using h4, by simpa using h5, by simpa using h1, by simpa using h4, by simpa using h5, h1, h2, h3, h4, h5⟩))))
theorem zero_ways (k : Int) : k = 0 ∨ (k ≠ 0 ∧ (k != 0) = true ∧ (k == 0) = false) := by
  by_cases h : k = 0
  · exact .inl h
  · exact .inr ⟨h, by simpa using h, by simpa using h⟩
theorem ge_ways (k m : Int) : (m ≤ k ∧ decide (m ≤ k) = true) ∨ (¬ m ≤ k ∧ decide (m ≤ k) = false) := by
  by_cases h : m ≤ k
  · exact .inl ⟨h, decide_eq_true h⟩
  · exact .inr ⟨h, decide_eq_false h⟩
theorem pos_ways (n : Nat) : n = 0 ∨ (n ≠ 0 ∧ 0 < n ∧ decide (0 < n) = true) := by
  by_cases h : n = 0
  · exact .inl h
  · exact .inr ⟨h, by omega, decide_eq_true (by omega)⟩

set_option maxRecDepth 100000 in
set_option maxHeartbeats 8000000 in
theorem may_any (f : FT) (v : Value) (w : World) (hv : T.At bare w (fun g => g < w.heap.size) (numsT .i64 f.chain) v) (ok : FOk f) :
    Calls Tryz.prog 56 #[.agg #[.string f.name, .int .i64 f.kind, v, .int .i64 f.scale, .int .i64 f.dims, .bool f.many, .bool f.stored]] w (AnsB (mayB f) w) := by
  obtain ⟨X, z, rfl, hz, hm, hrd⟩ := at_nums hv
  have HN := Lib.hid (fun (W : World) (_ : Below w.heap.size w W) => name_any f.name W ok.name)
  have HC := Lib.hid (fun (W : World) (hW : Below w.heap.size w W) => Ana.check_any X f.chain.length z f.chain W rfl ((hrd.below hW).more hW.size) hz hm)
  clear hv hrd ok
  obtain ⟨b, hn⟩ : ∃ b, nameB f.name = b := ⟨_, rfl⟩
  obtain ⟨r, hr0⟩ : ∃ r, checkB f.chain = r := ⟨_, rfl⟩
  rw [hr0] at HC
  have hr : (r = true ∧ Ana.errOf r = 0) ∨ (r = false ∧ Ana.errOf r = 60) := by cases r <;> simp [Ana.errOf]
  have HQ : Hid (mayB f = (b && (decide (f.kind = 1) || decide (f.chain.length = 0)) && (decide (f.kind = 4) || decide (f.scale = 0)) && (decide (f.kind = 5) || decide (f.dims = 0)) && (if f.kind = 1 then r else if f.kind = 2 ∨ f.kind = 3 then true else if f.kind = 4 then decide (0 ≤ f.scale ∧ f.scale ≤ 9) else if f.kind = 5 then decide (1 ≤ f.dims ∧ f.dims ≤ 4) else false))) := Lib.hid (by unfold mayB kindB; rw [hn, hr0])
  clear hr0
  cases b with
  | false =>
    · have HR : Hid (mayB f = false) := Lib.hid (by rw [HQ.out]; simp)
      clear HQ
      go_enter Tryz.func56, Tryz.ntmps56
      go_wp2_with fail
      refine (HN.out _ ((Below.refl _ w).alloc (Nat.le_refl _) _)).mono ?_
      rintro e W ⟨rfl, b0⟩
      have HB := Lib.hid (((Below.refl _ w).alloc (Nat.le_refl _) _).trans (b0.mono (by simp)) : Below w.heap.size w W)
      have BF := Lib.hid ((Blk.new w _ _).below b0 (by simp))
      obtain ⟨p0, p1, p2, p3, p4, p5, p6⟩ := blk7 BF.out
      rw [hn]
      clear b0 hn
      go_wp2_with fail
      go_ret
      rw [HR.out]; exact ⟨rfl, HB.out⟩
  | true =>
  obtain ⟨nm, kd, ch, sc, di, mn, st⟩ := f
  dsimp only at *
  generalize hch : ch.length = n at *
  rcases kind_ways kd with rfl | rfl | rfl | rfl | rfl | ⟨e1, e2, e3, e4, e5, n1, n4, n5, k1, k2, k3, k4, k5⟩
  · skip
    rcases zero_ways sc with rfl | ⟨s0, s1, s2⟩
    rotate_left
    · have HR : Hid (mayB _ = false) := Lib.hid (by rw [HQ.out]; simp_all <;> omega)
      clear HQ
      go_enter Tryz.func56, Tryz.ntmps56
      go_wp2_with fail
      refine (HN.out _ ((Below.refl _ w).alloc (Nat.le_refl _) _)).mono ?_
      rintro e W ⟨rfl, b0⟩
      have HB := Lib.hid (((Below.refl _ w).alloc (Nat.le_refl _) _).trans (b0.mono (by simp)) : Below w.heap.size w W)
      have BF := Lib.hid ((Blk.new w _ _).below b0 (by simp))
      obtain ⟨p0, p1, p2, p3, p4, p5, p6⟩ := blk7 BF.out
      rw [hn]
      clear b0 hn
      go_wp2_with fail
      go_ret
      rw [HR.out]; exact ⟨rfl, HB.out⟩
    rcases zero_ways di with rfl | ⟨d0, d1, d2⟩
    rotate_left
    · have HR : Hid (mayB _ = false) := Lib.hid (by rw [HQ.out]; simp_all <;> omega)
      clear HQ
      go_enter Tryz.func56, Tryz.ntmps56
      go_wp2_with fail
      refine (HN.out _ ((Below.refl _ w).alloc (Nat.le_refl _) _)).mono ?_
      rintro e W ⟨rfl, b0⟩
      have HB := Lib.hid (((Below.refl _ w).alloc (Nat.le_refl _) _).trans (b0.mono (by simp)) : Below w.heap.size w W)
      have BF := Lib.hid ((Blk.new w _ _).below b0 (by simp))
      obtain ⟨p0, p1, p2, p3, p4, p5, p6⟩ := blk7 BF.out
      rw [hn]
      clear b0 hn
      go_wp2_with fail
      go_ret
      rw [HR.out]; exact ⟨rfl, HB.out⟩
    · have HR : Hid (mayB _ = r) := Lib.hid (by rw [HQ.out]; simp_all <;> omega)
      clear HQ
      go_enter Tryz.func56, Tryz.ntmps56
      go_wp2_with fail
      refine (HN.out _ ((Below.refl _ w).alloc (Nat.le_refl _) _)).mono ?_
      rintro e W ⟨rfl, b0⟩
      have HB := Lib.hid (((Below.refl _ w).alloc (Nat.le_refl _) _).trans (b0.mono (by simp)) : Below w.heap.size w W)
      have BF := Lib.hid ((Blk.new w _ _).below b0 (by simp))
      obtain ⟨p0, p1, p2, p3, p4, p5, p6⟩ := blk7 BF.out
      rw [hn]
      clear b0 hn
      go_wp2_with fail
      refine (HC.out W HB.out).mono ?_
      rintro e W2 ⟨rfl, b1⟩
      have HB2 := Lib.hid (HB.out.trans (b1.mono HB.out.size))
      clear b1
      rcases hr with ⟨rfl, he⟩ | ⟨rfl, he⟩
      · rw [he]
        go_wp2_with fail
        go_ret
        rw [HR.out]; exact ⟨rfl, HB2.out⟩
      · rw [he]
        go_wp2_with fail
        go_ret
        rw [HR.out]; exact ⟨rfl, HB2.out⟩
  · skip
    rcases pos_ways n with rfl | ⟨c0, c1, c2⟩
    rotate_left
    · have HR : Hid (mayB _ = false) := Lib.hid (by rw [HQ.out]; simp_all <;> omega)
      clear HQ
      go_enter Tryz.func56, Tryz.ntmps56
      go_wp2_with fail
      refine (HN.out _ ((Below.refl _ w).alloc (Nat.le_refl _) _)).mono ?_
      rintro e W ⟨rfl, b0⟩
      have HB := Lib.hid (((Below.refl _ w).alloc (Nat.le_refl _) _).trans (b0.mono (by simp)) : Below w.heap.size w W)
      have BF := Lib.hid ((Blk.new w _ _).below b0 (by simp))
      obtain ⟨p0, p1, p2, p3, p4, p5, p6⟩ := blk7 BF.out
      rw [hn]
      clear b0 hn
      go_wp2_with fail
      go_ret
      rw [HR.out]; exact ⟨rfl, HB.out⟩
    rcases zero_ways sc with rfl | ⟨s0, s1, s2⟩
    rotate_left
    · have HR : Hid (mayB _ = false) := Lib.hid (by rw [HQ.out]; simp_all <;> omega)
      clear HQ
      go_enter Tryz.func56, Tryz.ntmps56
      go_wp2_with fail
      refine (HN.out _ ((Below.refl _ w).alloc (Nat.le_refl _) _)).mono ?_
      rintro e W ⟨rfl, b0⟩
      have HB := Lib.hid (((Below.refl _ w).alloc (Nat.le_refl _) _).trans (b0.mono (by simp)) : Below w.heap.size w W)
      have BF := Lib.hid ((Blk.new w _ _).below b0 (by simp))
      obtain ⟨p0, p1, p2, p3, p4, p5, p6⟩ := blk7 BF.out
      rw [hn]
      clear b0 hn
      go_wp2_with fail
      go_ret
      rw [HR.out]; exact ⟨rfl, HB.out⟩
    rcases zero_ways di with rfl | ⟨d0, d1, d2⟩
    rotate_left
    · have HR : Hid (mayB _ = false) := Lib.hid (by rw [HQ.out]; simp_all <;> omega)
      clear HQ
      go_enter Tryz.func56, Tryz.ntmps56
      go_wp2_with fail
      refine (HN.out _ ((Below.refl _ w).alloc (Nat.le_refl _) _)).mono ?_
      rintro e W ⟨rfl, b0⟩
      have HB := Lib.hid (((Below.refl _ w).alloc (Nat.le_refl _) _).trans (b0.mono (by simp)) : Below w.heap.size w W)
      have BF := Lib.hid ((Blk.new w _ _).below b0 (by simp))
      obtain ⟨p0, p1, p2, p3, p4, p5, p6⟩ := blk7 BF.out
      rw [hn]
      clear b0 hn
      go_wp2_with fail
      go_ret
      rw [HR.out]; exact ⟨rfl, HB.out⟩
    · have HR : Hid (mayB _ = true) := Lib.hid (by rw [HQ.out]; simp_all <;> omega)
      clear HQ
      go_enter Tryz.func56, Tryz.ntmps56
      go_wp2_with fail
      refine (HN.out _ ((Below.refl _ w).alloc (Nat.le_refl _) _)).mono ?_
      rintro e W ⟨rfl, b0⟩
      have HB := Lib.hid (((Below.refl _ w).alloc (Nat.le_refl _) _).trans (b0.mono (by simp)) : Below w.heap.size w W)
      have BF := Lib.hid ((Blk.new w _ _).below b0 (by simp))
      obtain ⟨p0, p1, p2, p3, p4, p5, p6⟩ := blk7 BF.out
      rw [hn]
      clear b0 hn
      go_wp2_with fail
      go_ret
      rw [HR.out]; exact ⟨rfl, HB.out⟩
  · skip
    rcases pos_ways n with rfl | ⟨c0, c1, c2⟩
    rotate_left
    · have HR : Hid (mayB _ = false) := Lib.hid (by rw [HQ.out]; simp_all <;> omega)
      clear HQ
      go_enter Tryz.func56, Tryz.ntmps56
      go_wp2_with fail
      refine (HN.out _ ((Below.refl _ w).alloc (Nat.le_refl _) _)).mono ?_
      rintro e W ⟨rfl, b0⟩
      have HB := Lib.hid (((Below.refl _ w).alloc (Nat.le_refl _) _).trans (b0.mono (by simp)) : Below w.heap.size w W)
      have BF := Lib.hid ((Blk.new w _ _).below b0 (by simp))
      obtain ⟨p0, p1, p2, p3, p4, p5, p6⟩ := blk7 BF.out
      rw [hn]
      clear b0 hn
      go_wp2_with fail
      go_ret
      rw [HR.out]; exact ⟨rfl, HB.out⟩
    rcases zero_ways sc with rfl | ⟨s0, s1, s2⟩
    rotate_left
    · have HR : Hid (mayB _ = false) := Lib.hid (by rw [HQ.out]; simp_all <;> omega)
      clear HQ
      go_enter Tryz.func56, Tryz.ntmps56
      go_wp2_with fail
      refine (HN.out _ ((Below.refl _ w).alloc (Nat.le_refl _) _)).mono ?_
      rintro e W ⟨rfl, b0⟩
      have HB := Lib.hid (((Below.refl _ w).alloc (Nat.le_refl _) _).trans (b0.mono (by simp)) : Below w.heap.size w W)
      have BF := Lib.hid ((Blk.new w _ _).below b0 (by simp))
      obtain ⟨p0, p1, p2, p3, p4, p5, p6⟩ := blk7 BF.out
      rw [hn]
      clear b0 hn
      go_wp2_with fail
      go_ret
      rw [HR.out]; exact ⟨rfl, HB.out⟩
    rcases zero_ways di with rfl | ⟨d0, d1, d2⟩
    rotate_left
    · have HR : Hid (mayB _ = false) := Lib.hid (by rw [HQ.out]; simp_all <;> omega)
      clear HQ
      go_enter Tryz.func56, Tryz.ntmps56
      go_wp2_with fail
      refine (HN.out _ ((Below.refl _ w).alloc (Nat.le_refl _) _)).mono ?_
      rintro e W ⟨rfl, b0⟩
      have HB := Lib.hid (((Below.refl _ w).alloc (Nat.le_refl _) _).trans (b0.mono (by simp)) : Below w.heap.size w W)
      have BF := Lib.hid ((Blk.new w _ _).below b0 (by simp))
      obtain ⟨p0, p1, p2, p3, p4, p5, p6⟩ := blk7 BF.out
      rw [hn]
      clear b0 hn
      go_wp2_with fail
      go_ret
      rw [HR.out]; exact ⟨rfl, HB.out⟩
    · have HR : Hid (mayB _ = true) := Lib.hid (by rw [HQ.out]; simp_all <;> omega)
      clear HQ
      go_enter Tryz.func56, Tryz.ntmps56
      go_wp2_with fail
      refine (HN.out _ ((Below.refl _ w).alloc (Nat.le_refl _) _)).mono ?_
      rintro e W ⟨rfl, b0⟩
      have HB := Lib.hid (((Below.refl _ w).alloc (Nat.le_refl _) _).trans (b0.mono (by simp)) : Below w.heap.size w W)
      have BF := Lib.hid ((Blk.new w _ _).below b0 (by simp))
      obtain ⟨p0, p1, p2, p3, p4, p5, p6⟩ := blk7 BF.out
      rw [hn]
      clear b0 hn
      go_wp2_with fail
      go_ret
      rw [HR.out]; exact ⟨rfl, HB.out⟩
  · skip
    rcases pos_ways n with rfl | ⟨c0, c1, c2⟩
    rotate_left
    · have HR : Hid (mayB _ = false) := Lib.hid (by rw [HQ.out]; simp_all <;> omega)
      clear HQ
      go_enter Tryz.func56, Tryz.ntmps56
      go_wp2_with fail
      refine (HN.out _ ((Below.refl _ w).alloc (Nat.le_refl _) _)).mono ?_
      rintro e W ⟨rfl, b0⟩
      have HB := Lib.hid (((Below.refl _ w).alloc (Nat.le_refl _) _).trans (b0.mono (by simp)) : Below w.heap.size w W)
      have BF := Lib.hid ((Blk.new w _ _).below b0 (by simp))
      obtain ⟨p0, p1, p2, p3, p4, p5, p6⟩ := blk7 BF.out
      rw [hn]
      clear b0 hn
      go_wp2_with fail
      go_ret
      rw [HR.out]; exact ⟨rfl, HB.out⟩
    rcases zero_ways di with rfl | ⟨d0, d1, d2⟩
    rotate_left
    · have HR : Hid (mayB _ = false) := Lib.hid (by rw [HQ.out]; simp_all <;> omega)
      clear HQ
      go_enter Tryz.func56, Tryz.ntmps56
      go_wp2_with fail
      refine (HN.out _ ((Below.refl _ w).alloc (Nat.le_refl _) _)).mono ?_
      rintro e W ⟨rfl, b0⟩
      have HB := Lib.hid (((Below.refl _ w).alloc (Nat.le_refl _) _).trans (b0.mono (by simp)) : Below w.heap.size w W)
      have BF := Lib.hid ((Blk.new w _ _).below b0 (by simp))
      obtain ⟨p0, p1, p2, p3, p4, p5, p6⟩ := blk7 BF.out
      rw [hn]
      clear b0 hn
      go_wp2_with fail
      go_ret
      rw [HR.out]; exact ⟨rfl, HB.out⟩
    rcases ge_ways sc 0 with ⟨g0, g1⟩ | ⟨g0, g1⟩
    rotate_left
    · have HR : Hid (mayB _ = false) := Lib.hid (by rw [HQ.out]; simp_all <;> omega)
      clear HQ
      go_enter Tryz.func56, Tryz.ntmps56
      go_wp2_with fail
      refine (HN.out _ ((Below.refl _ w).alloc (Nat.le_refl _) _)).mono ?_
      rintro e W ⟨rfl, b0⟩
      have HB := Lib.hid (((Below.refl _ w).alloc (Nat.le_refl _) _).trans (b0.mono (by simp)) : Below w.heap.size w W)
      have BF := Lib.hid ((Blk.new w _ _).below b0 (by simp))
      obtain ⟨p0, p1, p2, p3, p4, p5, p6⟩ := blk7 BF.out
      rw [hn]
      clear b0 hn
      go_wp2_with fail
      go_ret
      rw [HR.out]; exact ⟨rfl, HB.out⟩
    rcases ge_ways 9 sc with ⟨h0, h1⟩ | ⟨h0, h1⟩
    rotate_left
    · have HR : Hid (mayB _ = false) := Lib.hid (by rw [HQ.out]; simp_all <;> omega)
      clear HQ
      go_enter Tryz.func56, Tryz.ntmps56
      go_wp2_with fail
      refine (HN.out _ ((Below.refl _ w).alloc (Nat.le_refl _) _)).mono ?_
      rintro e W ⟨rfl, b0⟩
      have HB := Lib.hid (((Below.refl _ w).alloc (Nat.le_refl _) _).trans (b0.mono (by simp)) : Below w.heap.size w W)
      have BF := Lib.hid ((Blk.new w _ _).below b0 (by simp))
      obtain ⟨p0, p1, p2, p3, p4, p5, p6⟩ := blk7 BF.out
      rw [hn]
      clear b0 hn
      go_wp2_with fail
      go_ret
      rw [HR.out]; exact ⟨rfl, HB.out⟩
    · have HR : Hid (mayB _ = true) := Lib.hid (by rw [HQ.out]; simp_all <;> omega)
      clear HQ
      go_enter Tryz.func56, Tryz.ntmps56
      go_wp2_with fail
      refine (HN.out _ ((Below.refl _ w).alloc (Nat.le_refl _) _)).mono ?_
      rintro e W ⟨rfl, b0⟩
      have HB := Lib.hid (((Below.refl _ w).alloc (Nat.le_refl _) _).trans (b0.mono (by simp)) : Below w.heap.size w W)
      have BF := Lib.hid ((Blk.new w _ _).below b0 (by simp))
      obtain ⟨p0, p1, p2, p3, p4, p5, p6⟩ := blk7 BF.out
      rw [hn]
      clear b0 hn
      go_wp2_with fail
      go_ret
      rw [HR.out]; exact ⟨rfl, HB.out⟩
  · skip
    rcases pos_ways n with rfl | ⟨c0, c1, c2⟩
    rotate_left
    · have HR : Hid (mayB _ = false) := Lib.hid (by rw [HQ.out]; simp_all <;> omega)
      clear HQ
      go_enter Tryz.func56, Tryz.ntmps56
      go_wp2_with fail
      refine (HN.out _ ((Below.refl _ w).alloc (Nat.le_refl _) _)).mono ?_
      rintro e W ⟨rfl, b0⟩
      have HB := Lib.hid (((Below.refl _ w).alloc (Nat.le_refl _) _).trans (b0.mono (by simp)) : Below w.heap.size w W)
      have BF := Lib.hid ((Blk.new w _ _).below b0 (by simp))
      obtain ⟨p0, p1, p2, p3, p4, p5, p6⟩ := blk7 BF.out
      rw [hn]
      clear b0 hn
      go_wp2_with fail
      go_ret
      rw [HR.out]; exact ⟨rfl, HB.out⟩
    rcases zero_ways sc with rfl | ⟨s0, s1, s2⟩
    rotate_left
    · have HR : Hid (mayB _ = false) := Lib.hid (by rw [HQ.out]; simp_all <;> omega)
      clear HQ
      go_enter Tryz.func56, Tryz.ntmps56
      go_wp2_with fail
      refine (HN.out _ ((Below.refl _ w).alloc (Nat.le_refl _) _)).mono ?_
      rintro e W ⟨rfl, b0⟩
      have HB := Lib.hid (((Below.refl _ w).alloc (Nat.le_refl _) _).trans (b0.mono (by simp)) : Below w.heap.size w W)
      have BF := Lib.hid ((Blk.new w _ _).below b0 (by simp))
      obtain ⟨p0, p1, p2, p3, p4, p5, p6⟩ := blk7 BF.out
      rw [hn]
      clear b0 hn
      go_wp2_with fail
      go_ret
      rw [HR.out]; exact ⟨rfl, HB.out⟩
    rcases ge_ways di 1 with ⟨g0, g1⟩ | ⟨g0, g1⟩
    rotate_left
    · have HR : Hid (mayB _ = false) := Lib.hid (by rw [HQ.out]; simp_all <;> omega)
      clear HQ
      go_enter Tryz.func56, Tryz.ntmps56
      go_wp2_with fail
      refine (HN.out _ ((Below.refl _ w).alloc (Nat.le_refl _) _)).mono ?_
      rintro e W ⟨rfl, b0⟩
      have HB := Lib.hid (((Below.refl _ w).alloc (Nat.le_refl _) _).trans (b0.mono (by simp)) : Below w.heap.size w W)
      have BF := Lib.hid ((Blk.new w _ _).below b0 (by simp))
      obtain ⟨p0, p1, p2, p3, p4, p5, p6⟩ := blk7 BF.out
      rw [hn]
      clear b0 hn
      go_wp2_with fail
      go_ret
      rw [HR.out]; exact ⟨rfl, HB.out⟩
    rcases ge_ways 4 di with ⟨h0, h1⟩ | ⟨h0, h1⟩
    rotate_left
    · have HR : Hid (mayB _ = false) := Lib.hid (by rw [HQ.out]; simp_all <;> omega)
      clear HQ
      go_enter Tryz.func56, Tryz.ntmps56
      go_wp2_with fail
      refine (HN.out _ ((Below.refl _ w).alloc (Nat.le_refl _) _)).mono ?_
      rintro e W ⟨rfl, b0⟩
      have HB := Lib.hid (((Below.refl _ w).alloc (Nat.le_refl _) _).trans (b0.mono (by simp)) : Below w.heap.size w W)
      have BF := Lib.hid ((Blk.new w _ _).below b0 (by simp))
      obtain ⟨p0, p1, p2, p3, p4, p5, p6⟩ := blk7 BF.out
      rw [hn]
      clear b0 hn
      go_wp2_with fail
      go_ret
      rw [HR.out]; exact ⟨rfl, HB.out⟩
    · have HR : Hid (mayB _ = true) := Lib.hid (by rw [HQ.out]; simp_all <;> omega)
      clear HQ
      go_enter Tryz.func56, Tryz.ntmps56
      go_wp2_with fail
      refine (HN.out _ ((Below.refl _ w).alloc (Nat.le_refl _) _)).mono ?_
      rintro e W ⟨rfl, b0⟩
      have HB := Lib.hid (((Below.refl _ w).alloc (Nat.le_refl _) _).trans (b0.mono (by simp)) : Below w.heap.size w W)
      have BF := Lib.hid ((Blk.new w _ _).below b0 (by simp))
      obtain ⟨p0, p1, p2, p3, p4, p5, p6⟩ := blk7 BF.out
      rw [hn]
      clear b0 hn
      go_wp2_with fail
      go_ret
      rw [HR.out]; exact ⟨rfl, HB.out⟩
  · skip
    rcases pos_ways n with rfl | ⟨c0, c1, c2⟩
    rotate_left
    · have HR : Hid (mayB _ = false) := Lib.hid (by rw [HQ.out]; simp_all <;> omega)
      clear HQ
      go_enter Tryz.func56, Tryz.ntmps56
      go_wp2_with fail
      refine (HN.out _ ((Below.refl _ w).alloc (Nat.le_refl _) _)).mono ?_
      rintro e W ⟨rfl, b0⟩
      have HB := Lib.hid (((Below.refl _ w).alloc (Nat.le_refl _) _).trans (b0.mono (by simp)) : Below w.heap.size w W)
      have BF := Lib.hid ((Blk.new w _ _).below b0 (by simp))
      obtain ⟨p0, p1, p2, p3, p4, p5, p6⟩ := blk7 BF.out
      rw [hn]
      clear b0 hn
      go_wp2_with fail
      go_ret
      rw [HR.out]; exact ⟨rfl, HB.out⟩
    rcases zero_ways sc with rfl | ⟨s0, s1, s2⟩
    rotate_left
    · have HR : Hid (mayB _ = false) := Lib.hid (by rw [HQ.out]; simp_all <;> omega)
      clear HQ
      go_enter Tryz.func56, Tryz.ntmps56
      go_wp2_with fail
      refine (HN.out _ ((Below.refl _ w).alloc (Nat.le_refl _) _)).mono ?_
      rintro e W ⟨rfl, b0⟩
      have HB := Lib.hid (((Below.refl _ w).alloc (Nat.le_refl _) _).trans (b0.mono (by simp)) : Below w.heap.size w W)
      have BF := Lib.hid ((Blk.new w _ _).below b0 (by simp))
      obtain ⟨p0, p1, p2, p3, p4, p5, p6⟩ := blk7 BF.out
      rw [hn]
      clear b0 hn
      go_wp2_with fail
      go_ret
      rw [HR.out]; exact ⟨rfl, HB.out⟩
    rcases zero_ways di with rfl | ⟨d0, d1, d2⟩
    rotate_left
    · have HR : Hid (mayB _ = false) := Lib.hid (by rw [HQ.out]; simp_all <;> omega)
      clear HQ
      go_enter Tryz.func56, Tryz.ntmps56
      go_wp2_with fail
      refine (HN.out _ ((Below.refl _ w).alloc (Nat.le_refl _) _)).mono ?_
      rintro e W ⟨rfl, b0⟩
      have HB := Lib.hid (((Below.refl _ w).alloc (Nat.le_refl _) _).trans (b0.mono (by simp)) : Below w.heap.size w W)
      have BF := Lib.hid ((Blk.new w _ _).below b0 (by simp))
      obtain ⟨p0, p1, p2, p3, p4, p5, p6⟩ := blk7 BF.out
      rw [hn]
      clear b0 hn
      go_wp2_with fail
      go_ret
      rw [HR.out]; exact ⟨rfl, HB.out⟩
    · have HR : Hid (mayB _ = false) := Lib.hid (by rw [HQ.out]; simp_all <;> omega)
      clear HQ
      go_enter Tryz.func56, Tryz.ntmps56
      go_wp2_with fail
      refine (HN.out _ ((Below.refl _ w).alloc (Nat.le_refl _) _)).mono ?_
      rintro e W ⟨rfl, b0⟩
      have HB := Lib.hid (((Below.refl _ w).alloc (Nat.le_refl _) _).trans (b0.mono (by simp)) : Below w.heap.size w W)
      have BF := Lib.hid ((Blk.new w _ _).below b0 (by simp))
      obtain ⟨p0, p1, p2, p3, p4, p5, p6⟩ := blk7 BF.out
      rw [hn]
      clear b0 hn
      go_wp2_with fail
      go_ret
      rw [HR.out]; exact ⟨rfl, HB.out⟩
end Go.Proofs.YtfckomjbgopmaaaGreatDoor.Sch
