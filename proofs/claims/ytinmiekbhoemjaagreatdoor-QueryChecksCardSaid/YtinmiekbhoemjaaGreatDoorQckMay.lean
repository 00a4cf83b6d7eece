/- Contract: query.may (written by gen_may.py). -/
import Derived.Test.YtinmiekbhoemjaaGreatDoorPack14
import Derived.Test.YtinmiekbhoemjaaGreatDoorPack35
set_option linter.unusedVariables false
namespace Go.Proofs.YtinmiekbhoemjaaGreatDoor.Qck
open Go.RowKit Words Tree SchP QckP Kit Owned Sch Qry QryP FoldNext AnaP Ana

theorem wider {w : World} {B B' s n : Nat} {A : Option Addr} {xs : List Value} (h : Reads w B s A n xs) (hB : B ≤ B') : Reads w B' s A n xs :=
  ⟨h.1, fun h0 => by obtain ⟨ad, e, hb, hc⟩ := h.2 h0; exact ⟨ad, e, Nat.lt_of_lt_of_le hb hB, hc⟩⟩
set_option maxRecDepth 100000 in
set_option maxHeartbeats 4000000 in
theorem may_off (kd oc : Int) (f t u : ByteArray) (lo hi : List Int) (b op : Int) (ks : List QT) (L H K : Option Addr) (cl ch ck : Nat) (f0 : ByteArray) (f1 : Int) (f2 : List Int) (f3 f4 : Int) (f5 f6 : Bool) (X : Option Addr) (z : Nat) (w : World)
    (hx : Reads w w.heap.size 1 X f2.length (intCells f2)) (hxc : f2.length ≤ z) (hxm : z ≤ maxLen) (ht : t.size ≤ 140737488351232) (hT : Tabs w) (hk : ¬ kd = 3 ∧ ¬ kd = 4 ∧ ¬ kd = 5 ∧ ¬ kd = 6 ∧ ¬ kd = 7 ∧ ¬ kd = 10) :
    Calls Tryz.prog 51 #[.agg #[.int .i64 kd, .int .i64 oc, .string f, .string t, .string u, .slice L lo.length cl, .slice H hi.length ch, .int .i64 b, .int .i64 op, .slice K ks.length ck], .agg #[.string f0, .int .i64 f1, .slice X f2.length z, .int .i64 f3, .int .i64 f4, .bool f5, .bool f6]] w (Sch.IntB (mayE (.mk kd oc f t u lo hi b op ks) ⟨f0, f1, f2, f3, f4, f5, f6⟩) w) := by
  have HR := Lib.hid (fun (W : World) (hW : Below w.heap.size w W) => run_any X f2.length z f2 t W rfl (wider (hx.below hW) hW.size) hxc hxm (by omega) (hT.next hW))
  clear hx hT hxc hxm ht
  have HN := Lib.hid (fun (W : World) => numeric_any f0 f1 X f2.length z f3 f4 f5 f6 W)
  go_enter Tryz.func51, Tryz.ntmps51
  go_upto_region 1 with fail
  have HB := Lib.hid (((Below.refl _ w).alloc (Nat.le_refl _) (Obj.cells #[.int .i64 kd, .int .i64 oc, .string f, .string t, .string u, .slice L lo.length cl, .slice H hi.length ch, .int .i64 b, .int .i64 op, .slice K ks.length ck] 28)).alloc (by simp) (Obj.cells #[.string f0, .int .i64 f1, .slice X f2.length z, .int .i64 f3, .int .i64 f4, .bool f5, .bool f6] 46))
  have BQ := Lib.hid ((Blk.new w 28 #[.int .i64 kd, .int .i64 oc, .string f, .string t, .string u, .slice L lo.length cl, .slice H hi.length ch, .int .i64 b, .int .i64 op, .slice K ks.length ck]).alloc (Obj.cells #[.string f0, .int .i64 f1, .slice X f2.length z, .int .i64 f3, .int .i64 f4, .bool f5, .bool f6] 46))
  have BF := Lib.hid (Blk.new (w.alloc (Obj.cells #[.int .i64 kd, .int .i64 oc, .string f, .string t, .string u, .slice L lo.length cl, .slice H hi.length ch, .int .i64 b, .int .i64 op, .slice K ks.length ck] 28)) 46 #[.string f0, .int .i64 f1, .slice X f2.length z, .int .i64 f3, .int .i64 f4, .bool f5, .bool f6])
  have hzW : ((w.alloc (Obj.cells #[.int .i64 kd, .int .i64 oc, .string f, .string t, .string u, .slice L lo.length cl, .slice H hi.length ch, .int .i64 b, .int .i64 op, .slice K ks.length ck] 28)).alloc (Obj.cells #[.string f0, .int .i64 f1, .slice X f2.length z, .int .i64 f3, .int .i64 f4, .bool f5, .bool f6] 46)).heap.size = w.heap.size + 2 := by simp
  have hzV : (w.alloc (Obj.cells #[.int .i64 kd, .int .i64 oc, .string f, .string t, .string u, .slice L lo.length cl, .slice H hi.length ch, .int .i64 b, .int .i64 op, .slice K ks.length ck] 28)).heap.size = w.heap.size + 1 := by simp
  rw [hzV] at BF
  generalize (w.alloc (Obj.cells #[.int .i64 kd, .int .i64 oc, .string f, .string t, .string u, .slice L lo.length cl, .slice H hi.length ch, .int .i64 b, .int .i64 op, .slice K ks.length ck] 28)).alloc (Obj.cells #[.string f0, .int .i64 f1, .slice X f2.length z, .int .i64 f3, .int .i64 f4, .bool f5, .bool f6] 46) = W at *
  have q0 : W.cell? ⟨w.heap.size, 0, none⟩ = some (.int .i64 kd) := BQ.out.cell 0
  have q3 : W.cell? ⟨w.heap.size, 3, none⟩ = some (.string t) := BQ.out.cell 3
  have q5 : W.cell? ⟨w.heap.size, 5, none⟩ = some (.slice L lo.length cl) := BQ.out.cell 5
  obtain ⟨p0, p1, p2, p3, p4, p5, p6⟩ := blk7 BF.out
  obtain ⟨h3, h4, h5, h6, h7, h10⟩ := hk
  rcases (show f1 = 1 ∨ f1 = 2 ∨ (¬ f1 = 1 ∧ ¬ f1 = 2) by omega) with rfl | rfl | ⟨g1, g2⟩
  ·
    go_wp2_with fail
    go_ret
    exact ⟨by simp [mayE, mayP, numF, QryP.kd, QryP.lo, QryP.tx, *], HB.out⟩
  ·
    go_wp2_with fail
    go_ret
    exact ⟨by simp [mayE, mayP, numF, QryP.kd, QryP.lo, QryP.tx, *], HB.out⟩
  ·
    go_wp2_with fail
    go_ret
    exact ⟨by simp [mayE, mayP, numF, QryP.kd, QryP.lo, QryP.tx, *], HB.out⟩
set_option maxRecDepth 100000 in
set_option maxHeartbeats 4000000 in
theorem may_56 (kd oc : Int) (f t u : ByteArray) (lo hi : List Int) (b op : Int) (ks : List QT) (L H K : Option Addr) (cl ch ck : Nat) (f0 : ByteArray) (f1 : Int) (f2 : List Int) (f3 f4 : Int) (f5 f6 : Bool) (X : Option Addr) (z : Nat) (w : World)
    (hx : Reads w w.heap.size 1 X f2.length (intCells f2)) (hxc : f2.length ≤ z) (hxm : z ≤ maxLen) (ht : t.size ≤ 140737488351232) (hT : Tabs w) (hk : kd = 5 ∨ kd = 6) :
    Calls Tryz.prog 51 #[.agg #[.int .i64 kd, .int .i64 oc, .string f, .string t, .string u, .slice L lo.length cl, .slice H hi.length ch, .int .i64 b, .int .i64 op, .slice K ks.length ck], .agg #[.string f0, .int .i64 f1, .slice X f2.length z, .int .i64 f3, .int .i64 f4, .bool f5, .bool f6]] w (Sch.IntB (mayE (.mk kd oc f t u lo hi b op ks) ⟨f0, f1, f2, f3, f4, f5, f6⟩) w) := by
  have HR := Lib.hid (fun (W : World) (hW : Below w.heap.size w W) => run_any X f2.length z f2 t W rfl (wider (hx.below hW) hW.size) hxc hxm (by omega) (hT.next hW))
  clear hx hT hxc hxm ht
  have HN := Lib.hid (fun (W : World) => numeric_any f0 f1 X f2.length z f3 f4 f5 f6 W)
  go_enter Tryz.func51, Tryz.ntmps51
  go_upto_region 1 with fail
  have HB := Lib.hid (((Below.refl _ w).alloc (Nat.le_refl _) (Obj.cells #[.int .i64 kd, .int .i64 oc, .string f, .string t, .string u, .slice L lo.length cl, .slice H hi.length ch, .int .i64 b, .int .i64 op, .slice K ks.length ck] 28)).alloc (by simp) (Obj.cells #[.string f0, .int .i64 f1, .slice X f2.length z, .int .i64 f3, .int .i64 f4, .bool f5, .bool f6] 46))
  have BQ := Lib.hid ((Blk.new w 28 #[.int .i64 kd, .int .i64 oc, .string f, .string t, .string u, .slice L lo.length cl, .slice H hi.length ch, .int .i64 b, .int .i64 op, .slice K ks.length ck]).alloc (Obj.cells #[.string f0, .int .i64 f1, .slice X f2.length z, .int .i64 f3, .int .i64 f4, .bool f5, .bool f6] 46))
  have BF := Lib.hid (Blk.new (w.alloc (Obj.cells #[.int .i64 kd, .int .i64 oc, .string f, .string t, .string u, .slice L lo.length cl, .slice H hi.length ch, .int .i64 b, .int .i64 op, .slice K ks.length ck] 28)) 46 #[.string f0, .int .i64 f1, .slice X f2.length z, .int .i64 f3, .int .i64 f4, .bool f5, .bool f6])
  have hzW : ((w.alloc (Obj.cells #[.int .i64 kd, .int .i64 oc, .string f, .string t, .string u, .slice L lo.length cl, .slice H hi.length ch, .int .i64 b, .int .i64 op, .slice K ks.length ck] 28)).alloc (Obj.cells #[.string f0, .int .i64 f1, .slice X f2.length z, .int .i64 f3, .int .i64 f4, .bool f5, .bool f6] 46)).heap.size = w.heap.size + 2 := by simp
  have hzV : (w.alloc (Obj.cells #[.int .i64 kd, .int .i64 oc, .string f, .string t, .string u, .slice L lo.length cl, .slice H hi.length ch, .int .i64 b, .int .i64 op, .slice K ks.length ck] 28)).heap.size = w.heap.size + 1 := by simp
  rw [hzV] at BF
  generalize (w.alloc (Obj.cells #[.int .i64 kd, .int .i64 oc, .string f, .string t, .string u, .slice L lo.length cl, .slice H hi.length ch, .int .i64 b, .int .i64 op, .slice K ks.length ck] 28)).alloc (Obj.cells #[.string f0, .int .i64 f1, .slice X f2.length z, .int .i64 f3, .int .i64 f4, .bool f5, .bool f6] 46) = W at *
  have q0 : W.cell? ⟨w.heap.size, 0, none⟩ = some (.int .i64 kd) := BQ.out.cell 0
  have q3 : W.cell? ⟨w.heap.size, 3, none⟩ = some (.string t) := BQ.out.cell 3
  have q5 : W.cell? ⟨w.heap.size, 5, none⟩ = some (.slice L lo.length cl) := BQ.out.cell 5
  obtain ⟨p0, p1, p2, p3, p4, p5, p6⟩ := blk7 BF.out
  rcases hk with rfl | rfl
  · rcases (show f1 = 1 ∨ f1 = 2 ∨ (¬ f1 = 1 ∧ ¬ f1 = 2) by omega) with rfl | rfl | ⟨g1, g2⟩
    ·
      go_wp2_with fail
      go_ret
      exact ⟨by simp [mayE, mayP, numF, QryP.kd, QryP.lo, QryP.tx, *], HB.out⟩
    ·
      go_wp2_with fail
      go_ret
      exact ⟨by simp [mayE, mayP, numF, QryP.kd, QryP.lo, QryP.tx, *], HB.out⟩
    ·
      have gb1 : (f1 == (1 : Int)) = false := by rw [beq_eq_false_iff_ne]; exact g1
      have gb2 : (f1 == (2 : Int)) = false := by rw [beq_eq_false_iff_ne]; exact g2
      go_wp2_with fail
      go_ret
      exact ⟨by simp [mayE, mayP, numF, QryP.kd, QryP.lo, QryP.tx, *], HB.out⟩
  · rcases (show f1 = 1 ∨ f1 = 2 ∨ (¬ f1 = 1 ∧ ¬ f1 = 2) by omega) with rfl | rfl | ⟨g1, g2⟩
    ·
      go_wp2_with fail
      go_ret
      exact ⟨by simp [mayE, mayP, numF, QryP.kd, QryP.lo, QryP.tx, *], HB.out⟩
    ·
      go_wp2_with fail
      go_ret
      exact ⟨by simp [mayE, mayP, numF, QryP.kd, QryP.lo, QryP.tx, *], HB.out⟩
    ·
      have gb1 : (f1 == (1 : Int)) = false := by rw [beq_eq_false_iff_ne]; exact g1
      have gb2 : (f1 == (2 : Int)) = false := by rw [beq_eq_false_iff_ne]; exact g2
      go_wp2_with fail
      go_ret
      exact ⟨by simp [mayE, mayP, numF, QryP.kd, QryP.lo, QryP.tx, *], HB.out⟩
set_option maxRecDepth 100000 in
set_option maxHeartbeats 4000000 in
theorem may_34 (kd oc : Int) (f t u : ByteArray) (lo hi : List Int) (b op : Int) (ks : List QT) (L H K : Option Addr) (cl ch ck : Nat) (f0 : ByteArray) (f1 : Int) (f2 : List Int) (f3 f4 : Int) (f5 f6 : Bool) (X : Option Addr) (z : Nat) (w : World)
    (hx : Reads w w.heap.size 1 X f2.length (intCells f2)) (hxc : f2.length ≤ z) (hxm : z ≤ maxLen) (ht : t.size ≤ 140737488351232) (hT : Tabs w) (hk : kd = 3 ∨ kd = 4) :
    Calls Tryz.prog 51 #[.agg #[.int .i64 kd, .int .i64 oc, .string f, .string t, .string u, .slice L lo.length cl, .slice H hi.length ch, .int .i64 b, .int .i64 op, .slice K ks.length ck], .agg #[.string f0, .int .i64 f1, .slice X f2.length z, .int .i64 f3, .int .i64 f4, .bool f5, .bool f6]] w (Sch.IntB (mayE (.mk kd oc f t u lo hi b op ks) ⟨f0, f1, f2, f3, f4, f5, f6⟩) w) := by
  have HR := Lib.hid (fun (W : World) (hW : Below w.heap.size w W) => run_any X f2.length z f2 t W rfl (wider (hx.below hW) hW.size) hxc hxm (by omega) (hT.next hW))
  clear hx hT hxc hxm ht
  have HN := Lib.hid (fun (W : World) => numeric_any f0 f1 X f2.length z f3 f4 f5 f6 W)
  go_enter Tryz.func51, Tryz.ntmps51
  go_upto_region 1 with fail
  have HB := Lib.hid (((Below.refl _ w).alloc (Nat.le_refl _) (Obj.cells #[.int .i64 kd, .int .i64 oc, .string f, .string t, .string u, .slice L lo.length cl, .slice H hi.length ch, .int .i64 b, .int .i64 op, .slice K ks.length ck] 28)).alloc (by simp) (Obj.cells #[.string f0, .int .i64 f1, .slice X f2.length z, .int .i64 f3, .int .i64 f4, .bool f5, .bool f6] 46))
  have BQ := Lib.hid ((Blk.new w 28 #[.int .i64 kd, .int .i64 oc, .string f, .string t, .string u, .slice L lo.length cl, .slice H hi.length ch, .int .i64 b, .int .i64 op, .slice K ks.length ck]).alloc (Obj.cells #[.string f0, .int .i64 f1, .slice X f2.length z, .int .i64 f3, .int .i64 f4, .bool f5, .bool f6] 46))
  have BF := Lib.hid (Blk.new (w.alloc (Obj.cells #[.int .i64 kd, .int .i64 oc, .string f, .string t, .string u, .slice L lo.length cl, .slice H hi.length ch, .int .i64 b, .int .i64 op, .slice K ks.length ck] 28)) 46 #[.string f0, .int .i64 f1, .slice X f2.length z, .int .i64 f3, .int .i64 f4, .bool f5, .bool f6])
  have hzW : ((w.alloc (Obj.cells #[.int .i64 kd, .int .i64 oc, .string f, .string t, .string u, .slice L lo.length cl, .slice H hi.length ch, .int .i64 b, .int .i64 op, .slice K ks.length ck] 28)).alloc (Obj.cells #[.string f0, .int .i64 f1, .slice X f2.length z, .int .i64 f3, .int .i64 f4, .bool f5, .bool f6] 46)).heap.size = w.heap.size + 2 := by simp
  have hzV : (w.alloc (Obj.cells #[.int .i64 kd, .int .i64 oc, .string f, .string t, .string u, .slice L lo.length cl, .slice H hi.length ch, .int .i64 b, .int .i64 op, .slice K ks.length ck] 28)).heap.size = w.heap.size + 1 := by simp
  rw [hzV] at BF
  generalize (w.alloc (Obj.cells #[.int .i64 kd, .int .i64 oc, .string f, .string t, .string u, .slice L lo.length cl, .slice H hi.length ch, .int .i64 b, .int .i64 op, .slice K ks.length ck] 28)).alloc (Obj.cells #[.string f0, .int .i64 f1, .slice X f2.length z, .int .i64 f3, .int .i64 f4, .bool f5, .bool f6] 46) = W at *
  have q0 : W.cell? ⟨w.heap.size, 0, none⟩ = some (.int .i64 kd) := BQ.out.cell 0
  have q3 : W.cell? ⟨w.heap.size, 3, none⟩ = some (.string t) := BQ.out.cell 3
  have q5 : W.cell? ⟨w.heap.size, 5, none⟩ = some (.slice L lo.length cl) := BQ.out.cell 5
  obtain ⟨p0, p1, p2, p3, p4, p5, p6⟩ := blk7 BF.out
  rcases hk with rfl | rfl
  · rcases (show f1 = 1 ∨ f1 = 2 ∨ (¬ f1 = 1 ∧ ¬ f1 = 2) by omega) with rfl | rfl | ⟨g1, g2⟩
    ·
      obtain ⟨r, hr⟩ : ∃ r, runF f2 t = r := ⟨_, rfl⟩
      rw [hr] at HR
      obtain ⟨ts, n⟩ := r
      have hr2 : (runF f2 t).2 = n := by rw [hr]
      have HRN := Lib.hid hr2
      clear hr hr2
      go_wp2_with fail
      refine (HR.out _ HB.out).mono ?_
      rintro e w1 ⟨ao, c, rfl, _, hb⟩
      have HB1 := Lib.hid (HB.out.trans (hb.mono HB.out.size))
      clear hb
      by_cases h0 : n = 0
      · subst h0
        go_wp2_with fail
        go_ret
        have hr2 := HRN.out
        exact ⟨by simp [mayE, mayP, QryP.kd, QryP.lo, QryP.tx, *], HB1.out⟩
      · have hn0 : (n != (0 : Int)) = true := by rw [bne_iff_ne]; exact h0
        go_wp2_with fail
        go_ret
        have hr2 := HRN.out
        exact ⟨by simp [mayE, mayP, QryP.kd, QryP.lo, QryP.tx, *], HB1.out⟩
    ·
      go_wp2_with fail
      go_ret
      exact ⟨by simp [mayE, mayP, numF, QryP.kd, QryP.lo, QryP.tx, *], HB.out⟩
    ·
      have gb1 : (f1 == (1 : Int)) = false := by rw [beq_eq_false_iff_ne]; exact g1
      have gb2 : (f1 == (2 : Int)) = false := by rw [beq_eq_false_iff_ne]; exact g2
      go_wp2_with fail
      go_ret
      exact ⟨by simp [mayE, mayP, numF, QryP.kd, QryP.lo, QryP.tx, *], HB.out⟩
  · rcases (show f1 = 1 ∨ f1 = 2 ∨ (¬ f1 = 1 ∧ ¬ f1 = 2) by omega) with rfl | rfl | ⟨g1, g2⟩
    ·
      obtain ⟨r, hr⟩ : ∃ r, runF f2 t = r := ⟨_, rfl⟩
      rw [hr] at HR
      obtain ⟨ts, n⟩ := r
      have hr2 : (runF f2 t).2 = n := by rw [hr]
      have HRN := Lib.hid hr2
      clear hr hr2
      go_wp2_with fail
      refine (HR.out _ HB.out).mono ?_
      rintro e w1 ⟨ao, c, rfl, _, hb⟩
      have HB1 := Lib.hid (HB.out.trans (hb.mono HB.out.size))
      clear hb
      by_cases h0 : n = 0
      · subst h0
        go_wp2_with fail
        go_ret
        have hr2 := HRN.out
        exact ⟨by simp [mayE, mayP, QryP.kd, QryP.lo, QryP.tx, *], HB1.out⟩
      · have hn0 : (n != (0 : Int)) = true := by rw [bne_iff_ne]; exact h0
        go_wp2_with fail
        go_ret
        have hr2 := HRN.out
        exact ⟨by simp [mayE, mayP, QryP.kd, QryP.lo, QryP.tx, *], HB1.out⟩
    ·
      go_wp2_with fail
      go_ret
      exact ⟨by simp [mayE, mayP, numF, QryP.kd, QryP.lo, QryP.tx, *], HB.out⟩
    ·
      have gb1 : (f1 == (1 : Int)) = false := by rw [beq_eq_false_iff_ne]; exact g1
      have gb2 : (f1 == (2 : Int)) = false := by rw [beq_eq_false_iff_ne]; exact g2
      go_wp2_with fail
      go_ret
      exact ⟨by simp [mayE, mayP, numF, QryP.kd, QryP.lo, QryP.tx, *], HB.out⟩
set_option maxRecDepth 100000 in
set_option maxHeartbeats 4000000 in
theorem may_10 (kd oc : Int) (f t u : ByteArray) (lo hi : List Int) (b op : Int) (ks : List QT) (L H K : Option Addr) (cl ch ck : Nat) (f0 : ByteArray) (f1 : Int) (f2 : List Int) (f3 f4 : Int) (f5 f6 : Bool) (X : Option Addr) (z : Nat) (w : World)
    (hx : Reads w w.heap.size 1 X f2.length (intCells f2)) (hxc : f2.length ≤ z) (hxm : z ≤ maxLen) (ht : t.size ≤ 140737488351232) (hT : Tabs w) (HK : Hid (kd = 10)) :
    Calls Tryz.prog 51 #[.agg #[.int .i64 kd, .int .i64 oc, .string f, .string t, .string u, .slice L lo.length cl, .slice H hi.length ch, .int .i64 b, .int .i64 op, .slice K ks.length ck], .agg #[.string f0, .int .i64 f1, .slice X f2.length z, .int .i64 f3, .int .i64 f4, .bool f5, .bool f6]] w (Sch.IntB (mayE (.mk kd oc f t u lo hi b op ks) ⟨f0, f1, f2, f3, f4, f5, f6⟩) w) := by
  have HR := Lib.hid (fun (W : World) (hW : Below w.heap.size w W) => run_any X f2.length z f2 t W rfl (wider (hx.below hW) hW.size) hxc hxm (by omega) (hT.next hW))
  clear hx hT hxc hxm ht
  have HN := Lib.hid (fun (W : World) => numeric_any f0 f1 X f2.length z f3 f4 f5 f6 W)
  go_enter Tryz.func51, Tryz.ntmps51
  go_upto_region 1 with fail
  have HB := Lib.hid (((Below.refl _ w).alloc (Nat.le_refl _) (Obj.cells #[.int .i64 kd, .int .i64 oc, .string f, .string t, .string u, .slice L lo.length cl, .slice H hi.length ch, .int .i64 b, .int .i64 op, .slice K ks.length ck] 28)).alloc (by simp) (Obj.cells #[.string f0, .int .i64 f1, .slice X f2.length z, .int .i64 f3, .int .i64 f4, .bool f5, .bool f6] 46))
  have BQ := Lib.hid ((Blk.new w 28 #[.int .i64 kd, .int .i64 oc, .string f, .string t, .string u, .slice L lo.length cl, .slice H hi.length ch, .int .i64 b, .int .i64 op, .slice K ks.length ck]).alloc (Obj.cells #[.string f0, .int .i64 f1, .slice X f2.length z, .int .i64 f3, .int .i64 f4, .bool f5, .bool f6] 46))
  have BF := Lib.hid (Blk.new (w.alloc (Obj.cells #[.int .i64 kd, .int .i64 oc, .string f, .string t, .string u, .slice L lo.length cl, .slice H hi.length ch, .int .i64 b, .int .i64 op, .slice K ks.length ck] 28)) 46 #[.string f0, .int .i64 f1, .slice X f2.length z, .int .i64 f3, .int .i64 f4, .bool f5, .bool f6])
  have hzW : ((w.alloc (Obj.cells #[.int .i64 kd, .int .i64 oc, .string f, .string t, .string u, .slice L lo.length cl, .slice H hi.length ch, .int .i64 b, .int .i64 op, .slice K ks.length ck] 28)).alloc (Obj.cells #[.string f0, .int .i64 f1, .slice X f2.length z, .int .i64 f3, .int .i64 f4, .bool f5, .bool f6] 46)).heap.size = w.heap.size + 2 := by simp
  have hzV : (w.alloc (Obj.cells #[.int .i64 kd, .int .i64 oc, .string f, .string t, .string u, .slice L lo.length cl, .slice H hi.length ch, .int .i64 b, .int .i64 op, .slice K ks.length ck] 28)).heap.size = w.heap.size + 1 := by simp
  rw [hzV] at BF
  generalize (w.alloc (Obj.cells #[.int .i64 kd, .int .i64 oc, .string f, .string t, .string u, .slice L lo.length cl, .slice H hi.length ch, .int .i64 b, .int .i64 op, .slice K ks.length ck] 28)).alloc (Obj.cells #[.string f0, .int .i64 f1, .slice X f2.length z, .int .i64 f3, .int .i64 f4, .bool f5, .bool f6] 46) = W at *
  have q0 : W.cell? ⟨w.heap.size, 0, none⟩ = some (.int .i64 kd) := BQ.out.cell 0
  have q3 : W.cell? ⟨w.heap.size, 3, none⟩ = some (.string t) := BQ.out.cell 3
  have q5 : W.cell? ⟨w.heap.size, 5, none⟩ = some (.slice L lo.length cl) := BQ.out.cell 5
  obtain ⟨p0, p1, p2, p3, p4, p5, p6⟩ := blk7 BF.out
  have hk := HK.out
  clear HK
  subst hk
  rcases (show f1 = 3 ∨ f1 = 4 ∨ f1 = 1 ∨ (¬ f1 = 3 ∧ ¬ f1 = 4 ∧ ¬ f1 = 1) by omega) with rfl | rfl | rfl | ⟨g3, g4, g1⟩
  ·
    have hd : (decide ((3 : Int) = 3) || decide ((3 : Int) = 4)) = true := by decide
    rw [hd] at HN
    clear hd
    go_wp2_with fail
    refine (HN.out W).mono ?_
    rintro e w1 ⟨rfl, hb⟩
    have HB1 := Lib.hid (HB.out.trans (hb.mono HB.out.size))
    have q0 : w1.cell? ⟨w.heap.size, 0, none⟩ = some (.int .i64 _) := (BQ.out.below hb (by omega)).cell 0
    have q5 : w1.cell? ⟨w.heap.size, 5, none⟩ = some (.slice L lo.length cl) := (BQ.out.below hb (by omega)).cell 5
    obtain ⟨p0, p1, p2, p3, p4, p5, p6⟩ := blk7 (BF.out.below hb (by omega))
    clear hb
    go_wp2_with fail
    go_ret
    exact ⟨by simp [mayE, mayP, numF, QryP.kd, QryP.lo, QryP.tx, *], HB1.out⟩
  ·
    have hd : (decide ((4 : Int) = 3) || decide ((4 : Int) = 4)) = true := by decide
    rw [hd] at HN
    clear hd
    go_wp2_with fail
    refine (HN.out W).mono ?_
    rintro e w1 ⟨rfl, hb⟩
    have HB1 := Lib.hid (HB.out.trans (hb.mono HB.out.size))
    have q0 : w1.cell? ⟨w.heap.size, 0, none⟩ = some (.int .i64 _) := (BQ.out.below hb (by omega)).cell 0
    have q5 : w1.cell? ⟨w.heap.size, 5, none⟩ = some (.slice L lo.length cl) := (BQ.out.below hb (by omega)).cell 5
    obtain ⟨p0, p1, p2, p3, p4, p5, p6⟩ := blk7 (BF.out.below hb (by omega))
    clear hb
    go_wp2_with fail
    go_ret
    exact ⟨by simp [mayE, mayP, numF, QryP.kd, QryP.lo, QryP.tx, *], HB1.out⟩
  ·
    have hd : (decide ((1 : Int) = 3) || decide ((1 : Int) = 4)) = false := by decide
    rw [hd] at HN
    clear hd
    go_wp2_with fail
    refine (HN.out W).mono ?_
    rintro e w1 ⟨rfl, hb⟩
    have HB1 := Lib.hid (HB.out.trans (hb.mono HB.out.size))
    have q0 : w1.cell? ⟨w.heap.size, 0, none⟩ = some (.int .i64 _) := (BQ.out.below hb (by omega)).cell 0
    have q5 : w1.cell? ⟨w.heap.size, 5, none⟩ = some (.slice L lo.length cl) := (BQ.out.below hb (by omega)).cell 5
    obtain ⟨p0, p1, p2, p3, p4, p5, p6⟩ := blk7 (BF.out.below hb (by omega))
    clear hb
    go_wp2_with fail
    go_ret
    exact ⟨by simp [mayE, mayP, numF, QryP.kd, QryP.lo, QryP.tx, *], HB1.out⟩
  ·
    have hd : (decide (f1 = 3) || decide (f1 = 4)) = false := by simp [g3, g4]
    rw [hd] at HN
    clear hd
    go_wp2_with fail
    refine (HN.out W).mono ?_
    rintro e w1 ⟨rfl, hb⟩
    have HB1 := Lib.hid (HB.out.trans (hb.mono HB.out.size))
    have q0 : w1.cell? ⟨w.heap.size, 0, none⟩ = some (.int .i64 _) := (BQ.out.below hb (by omega)).cell 0
    have q5 : w1.cell? ⟨w.heap.size, 5, none⟩ = some (.slice L lo.length cl) := (BQ.out.below hb (by omega)).cell 5
    obtain ⟨p0, p1, p2, p3, p4, p5, p6⟩ := blk7 (BF.out.below hb (by omega))
    clear hb
    go_wp2_with fail
    go_ret
    exact ⟨by simp [mayE, mayP, numF, QryP.kd, QryP.lo, QryP.tx, *], HB1.out⟩
set_option maxRecDepth 100000 in
set_option maxHeartbeats 4000000 in
theorem may_7 (kd oc : Int) (f t u : ByteArray) (lo hi : List Int) (b op : Int) (ks : List QT) (L H K : Option Addr) (cl ch ck : Nat) (f0 : ByteArray) (f1 : Int) (f2 : List Int) (f3 f4 : Int) (f5 f6 : Bool) (X : Option Addr) (z : Nat) (w : World)
    (hx : Reads w w.heap.size 1 X f2.length (intCells f2)) (hxc : f2.length ≤ z) (hxm : z ≤ maxLen) (ht : t.size ≤ 140737488351232) (hT : Tabs w) (HK : Hid (kd = 7)) :
    Calls Tryz.prog 51 #[.agg #[.int .i64 kd, .int .i64 oc, .string f, .string t, .string u, .slice L lo.length cl, .slice H hi.length ch, .int .i64 b, .int .i64 op, .slice K ks.length ck], .agg #[.string f0, .int .i64 f1, .slice X f2.length z, .int .i64 f3, .int .i64 f4, .bool f5, .bool f6]] w (Sch.IntB (mayE (.mk kd oc f t u lo hi b op ks) ⟨f0, f1, f2, f3, f4, f5, f6⟩) w) := by
  have HR := Lib.hid (fun (W : World) (hW : Below w.heap.size w W) => run_any X f2.length z f2 t W rfl (wider (hx.below hW) hW.size) hxc hxm (by omega) (hT.next hW))
  clear hx hT hxc hxm ht
  have HN := Lib.hid (fun (W : World) => numeric_any f0 f1 X f2.length z f3 f4 f5 f6 W)
  go_enter Tryz.func51, Tryz.ntmps51
  go_upto_region 1 with fail
  have HB := Lib.hid (((Below.refl _ w).alloc (Nat.le_refl _) (Obj.cells #[.int .i64 kd, .int .i64 oc, .string f, .string t, .string u, .slice L lo.length cl, .slice H hi.length ch, .int .i64 b, .int .i64 op, .slice K ks.length ck] 28)).alloc (by simp) (Obj.cells #[.string f0, .int .i64 f1, .slice X f2.length z, .int .i64 f3, .int .i64 f4, .bool f5, .bool f6] 46))
  have BQ := Lib.hid ((Blk.new w 28 #[.int .i64 kd, .int .i64 oc, .string f, .string t, .string u, .slice L lo.length cl, .slice H hi.length ch, .int .i64 b, .int .i64 op, .slice K ks.length ck]).alloc (Obj.cells #[.string f0, .int .i64 f1, .slice X f2.length z, .int .i64 f3, .int .i64 f4, .bool f5, .bool f6] 46))
  have BF := Lib.hid (Blk.new (w.alloc (Obj.cells #[.int .i64 kd, .int .i64 oc, .string f, .string t, .string u, .slice L lo.length cl, .slice H hi.length ch, .int .i64 b, .int .i64 op, .slice K ks.length ck] 28)) 46 #[.string f0, .int .i64 f1, .slice X f2.length z, .int .i64 f3, .int .i64 f4, .bool f5, .bool f6])
  have hzW : ((w.alloc (Obj.cells #[.int .i64 kd, .int .i64 oc, .string f, .string t, .string u, .slice L lo.length cl, .slice H hi.length ch, .int .i64 b, .int .i64 op, .slice K ks.length ck] 28)).alloc (Obj.cells #[.string f0, .int .i64 f1, .slice X f2.length z, .int .i64 f3, .int .i64 f4, .bool f5, .bool f6] 46)).heap.size = w.heap.size + 2 := by simp
  have hzV : (w.alloc (Obj.cells #[.int .i64 kd, .int .i64 oc, .string f, .string t, .string u, .slice L lo.length cl, .slice H hi.length ch, .int .i64 b, .int .i64 op, .slice K ks.length ck] 28)).heap.size = w.heap.size + 1 := by simp
  rw [hzV] at BF
  generalize (w.alloc (Obj.cells #[.int .i64 kd, .int .i64 oc, .string f, .string t, .string u, .slice L lo.length cl, .slice H hi.length ch, .int .i64 b, .int .i64 op, .slice K ks.length ck] 28)).alloc (Obj.cells #[.string f0, .int .i64 f1, .slice X f2.length z, .int .i64 f3, .int .i64 f4, .bool f5, .bool f6] 46) = W at *
  have q0 : W.cell? ⟨w.heap.size, 0, none⟩ = some (.int .i64 kd) := BQ.out.cell 0
  have q3 : W.cell? ⟨w.heap.size, 3, none⟩ = some (.string t) := BQ.out.cell 3
  have q5 : W.cell? ⟨w.heap.size, 5, none⟩ = some (.slice L lo.length cl) := BQ.out.cell 5
  obtain ⟨p0, p1, p2, p3, p4, p5, p6⟩ := blk7 BF.out
  have hk := HK.out
  clear HK
  subst hk
  have e1 : (lo.length : Int) = 1 ↔ lo.length = 1 := by omega
  rcases (show f1 = 3 ∨ f1 = 4 ∨ f1 = 5 ∨ f1 = 1 ∨ (¬ f1 = 3 ∧ ¬ f1 = 4 ∧ ¬ f1 = 5 ∧ ¬ f1 = 1) by omega) with rfl | rfl | rfl | rfl | ⟨g3, g4, g5, g1⟩
  · by_cases h1 : lo.length = 1
    · have hi1 : ((lo.length : Int) == 1) = true := by rw [beq_iff_eq]; omega
      have hd : (decide ((3 : Int) = 3) || decide ((3 : Int) = 4)) = true := by decide
      rw [hd] at HN
      clear hd
      go_wp2_with fail
      refine (HN.out W).mono ?_
      rintro e w1 ⟨rfl, hb⟩
      have HB1 := Lib.hid (HB.out.trans (hb.mono HB.out.size))
      have q0 : w1.cell? ⟨w.heap.size, 0, none⟩ = some (.int .i64 _) := (BQ.out.below hb (by omega)).cell 0
      have q5 : w1.cell? ⟨w.heap.size, 5, none⟩ = some (.slice L lo.length cl) := (BQ.out.below hb (by omega)).cell 5
      obtain ⟨p0, p1, p2, p3, p4, p5, p6⟩ := blk7 (BF.out.below hb (by omega))
      clear hb
      go_wp2_with fail
      go_ret
      exact ⟨by simp [mayE, mayP, numF, QryP.kd, QryP.lo, QryP.tx, *], HB1.out⟩
    · have hi1 : ((lo.length : Int) == 1) = false := by rw [beq_eq_false_iff_ne]; omega
      have hd : (decide ((3 : Int) = 3) || decide ((3 : Int) = 4)) = true := by decide
      rw [hd] at HN
      clear hd
      go_wp2_with fail
      refine (HN.out W).mono ?_
      rintro e w1 ⟨rfl, hb⟩
      have HB1 := Lib.hid (HB.out.trans (hb.mono HB.out.size))
      have q0 : w1.cell? ⟨w.heap.size, 0, none⟩ = some (.int .i64 _) := (BQ.out.below hb (by omega)).cell 0
      have q5 : w1.cell? ⟨w.heap.size, 5, none⟩ = some (.slice L lo.length cl) := (BQ.out.below hb (by omega)).cell 5
      obtain ⟨p0, p1, p2, p3, p4, p5, p6⟩ := blk7 (BF.out.below hb (by omega))
      clear hb
      go_wp2_with fail
      go_ret
      exact ⟨by simp [mayE, mayP, numF, QryP.kd, QryP.lo, QryP.tx, *], HB1.out⟩
  · by_cases h1 : lo.length = 1
    · have hi1 : ((lo.length : Int) == 1) = true := by rw [beq_iff_eq]; omega
      have hd : (decide ((4 : Int) = 3) || decide ((4 : Int) = 4)) = true := by decide
      rw [hd] at HN
      clear hd
      go_wp2_with fail
      refine (HN.out W).mono ?_
      rintro e w1 ⟨rfl, hb⟩
      have HB1 := Lib.hid (HB.out.trans (hb.mono HB.out.size))
      have q0 : w1.cell? ⟨w.heap.size, 0, none⟩ = some (.int .i64 _) := (BQ.out.below hb (by omega)).cell 0
      have q5 : w1.cell? ⟨w.heap.size, 5, none⟩ = some (.slice L lo.length cl) := (BQ.out.below hb (by omega)).cell 5
      obtain ⟨p0, p1, p2, p3, p4, p5, p6⟩ := blk7 (BF.out.below hb (by omega))
      clear hb
      go_wp2_with fail
      go_ret
      exact ⟨by simp [mayE, mayP, numF, QryP.kd, QryP.lo, QryP.tx, *], HB1.out⟩
    · have hi1 : ((lo.length : Int) == 1) = false := by rw [beq_eq_false_iff_ne]; omega
      have hd : (decide ((4 : Int) = 3) || decide ((4 : Int) = 4)) = true := by decide
      rw [hd] at HN
      clear hd
      go_wp2_with fail
      refine (HN.out W).mono ?_
      rintro e w1 ⟨rfl, hb⟩
      have HB1 := Lib.hid (HB.out.trans (hb.mono HB.out.size))
      have q0 : w1.cell? ⟨w.heap.size, 0, none⟩ = some (.int .i64 _) := (BQ.out.below hb (by omega)).cell 0
      have q5 : w1.cell? ⟨w.heap.size, 5, none⟩ = some (.slice L lo.length cl) := (BQ.out.below hb (by omega)).cell 5
      obtain ⟨p0, p1, p2, p3, p4, p5, p6⟩ := blk7 (BF.out.below hb (by omega))
      clear hb
      go_wp2_with fail
      go_ret
      exact ⟨by simp [mayE, mayP, numF, QryP.kd, QryP.lo, QryP.tx, *], HB1.out⟩
  · by_cases h1 : (lo.length : Int) = f4
    · have hi1 : ((lo.length : Int) == f4) = true := by rw [beq_iff_eq]; exact h1
      have hd : (decide ((5 : Int) = 3) || decide ((5 : Int) = 4)) = false := by decide
      rw [hd] at HN
      clear hd
      go_wp2_with fail
      refine (HN.out W).mono ?_
      rintro e w1 ⟨rfl, hb⟩
      have HB1 := Lib.hid (HB.out.trans (hb.mono HB.out.size))
      have q0 : w1.cell? ⟨w.heap.size, 0, none⟩ = some (.int .i64 _) := (BQ.out.below hb (by omega)).cell 0
      have q5 : w1.cell? ⟨w.heap.size, 5, none⟩ = some (.slice L lo.length cl) := (BQ.out.below hb (by omega)).cell 5
      obtain ⟨p0, p1, p2, p3, p4, p5, p6⟩ := blk7 (BF.out.below hb (by omega))
      clear hb
      go_wp2_with fail
      go_ret
      exact ⟨by simp [mayE, mayP, numF, QryP.kd, QryP.lo, QryP.tx, *], HB1.out⟩
    · have hi1 : ((lo.length : Int) == f4) = false := by rw [beq_eq_false_iff_ne]; exact h1
      have hd : (decide ((5 : Int) = 3) || decide ((5 : Int) = 4)) = false := by decide
      rw [hd] at HN
      clear hd
      go_wp2_with fail
      refine (HN.out W).mono ?_
      rintro e w1 ⟨rfl, hb⟩
      have HB1 := Lib.hid (HB.out.trans (hb.mono HB.out.size))
      have q0 : w1.cell? ⟨w.heap.size, 0, none⟩ = some (.int .i64 _) := (BQ.out.below hb (by omega)).cell 0
      have q5 : w1.cell? ⟨w.heap.size, 5, none⟩ = some (.slice L lo.length cl) := (BQ.out.below hb (by omega)).cell 5
      obtain ⟨p0, p1, p2, p3, p4, p5, p6⟩ := blk7 (BF.out.below hb (by omega))
      clear hb
      go_wp2_with fail
      go_ret
      exact ⟨by simp [mayE, mayP, numF, QryP.kd, QryP.lo, QryP.tx, *], HB1.out⟩
  ·
    have hd : (decide ((1 : Int) = 3) || decide ((1 : Int) = 4)) = false := by decide
    rw [hd] at HN
    clear hd
    go_wp2_with fail
    refine (HN.out W).mono ?_
    rintro e w1 ⟨rfl, hb⟩
    have HB1 := Lib.hid (HB.out.trans (hb.mono HB.out.size))
    have q0 : w1.cell? ⟨w.heap.size, 0, none⟩ = some (.int .i64 _) := (BQ.out.below hb (by omega)).cell 0
    have q5 : w1.cell? ⟨w.heap.size, 5, none⟩ = some (.slice L lo.length cl) := (BQ.out.below hb (by omega)).cell 5
    obtain ⟨p0, p1, p2, p3, p4, p5, p6⟩ := blk7 (BF.out.below hb (by omega))
    clear hb
    go_wp2_with fail
    go_ret
    exact ⟨by simp [mayE, mayP, numF, QryP.kd, QryP.lo, QryP.tx, *], HB1.out⟩
  ·
    have hd : (decide (f1 = 3) || decide (f1 = 4)) = false := by simp [g3, g4]
    rw [hd] at HN
    clear hd
    go_wp2_with fail
    refine (HN.out W).mono ?_
    rintro e w1 ⟨rfl, hb⟩
    have HB1 := Lib.hid (HB.out.trans (hb.mono HB.out.size))
    have q0 : w1.cell? ⟨w.heap.size, 0, none⟩ = some (.int .i64 _) := (BQ.out.below hb (by omega)).cell 0
    have q5 : w1.cell? ⟨w.heap.size, 5, none⟩ = some (.slice L lo.length cl) := (BQ.out.below hb (by omega)).cell 5
    obtain ⟨p0, p1, p2, p3, p4, p5, p6⟩ := blk7 (BF.out.below hb (by omega))
    clear hb
    go_wp2_with fail
    go_ret
    exact ⟨by simp [mayE, mayP, numF, QryP.kd, QryP.lo, QryP.tx, *], HB1.out⟩
/-- query.may, at any part and field. -/
theorem mayQ_any (kd oc : Int) (f t u : ByteArray) (lo hi : List Int) (b op : Int) (ks : List QT) (L H K : Option Addr) (cl ch ck : Nat) (f0 : ByteArray) (f1 : Int) (f2 : List Int) (f3 f4 : Int) (f5 f6 : Bool) (X : Option Addr) (z : Nat) (w : World)
    (hx : Reads w w.heap.size 1 X f2.length (intCells f2)) (hxc : f2.length ≤ z) (hxm : z ≤ maxLen) (ht : t.size ≤ 140737488351232) (hT : Tabs w) :
    Calls Tryz.prog 51 #[.agg #[.int .i64 kd, .int .i64 oc, .string f, .string t, .string u, .slice L lo.length cl, .slice H hi.length ch, .int .i64 b, .int .i64 op, .slice K ks.length ck], .agg #[.string f0, .int .i64 f1, .slice X f2.length z, .int .i64 f3, .int .i64 f4, .bool f5, .bool f6]] w (Sch.IntB (mayE (.mk kd oc f t u lo hi b op ks) ⟨f0, f1, f2, f3, f4, f5, f6⟩) w) := by
  rcases (show (¬ kd = 3 ∧ ¬ kd = 4 ∧ ¬ kd = 5 ∧ ¬ kd = 6 ∧ ¬ kd = 7 ∧ ¬ kd = 10) ∨ (kd = 5 ∨ kd = 6) ∨ (kd = 3 ∨ kd = 4) ∨ kd = 7 ∨ kd = 10 by omega) with h | h | h | h | h
  · exact may_off kd oc f t u lo hi b op ks L H K cl ch ck f0 f1 f2 f3 f4 f5 f6 X z w hx hxc hxm ht hT h
  · exact may_56 kd oc f t u lo hi b op ks L H K cl ch ck f0 f1 f2 f3 f4 f5 f6 X z w hx hxc hxm ht hT h
  · exact may_34 kd oc f t u lo hi b op ks L H K cl ch ck f0 f1 f2 f3 f4 f5 f6 X z w hx hxc hxm ht hT h
  · exact may_7 kd oc f t u lo hi b op ks L H K cl ch ck f0 f1 f2 f3 f4 f5 f6 X z w hx hxc hxm ht hT (Lib.hid h)
  · exact may_10 kd oc f t u lo hi b op ks L H K cl ch ck f0 f1 f2 f3 f4 f5 f6 X z w hx hxc hxm ht hT (Lib.hid h)
end Go.Proofs.YtinmiekbhoemjaaGreatDoor.Qck
