/- Contracts: numbers and texts compared, the first that is not nought. -/
import Derived.Test.YtebagmiclfhelaaDoorOrdKey
set_option linter.unusedVariables false
namespace OrdP
open Go.Lib Go
theorem cmpB_lt : ∀ a b : List UInt8, Op.bytesLess a b = true → cmpB a b = -1
  | _, [], h => by simp [Op.bytesLess] at h
  | [], _ :: _, _ => rfl
  | x :: a, y :: b, h => by
    unfold Op.bytesLess at h
    unfold cmpB
    by_cases h1 : x < y
    · rw [if_pos h1]
    · simp only [h1, decide_false, Bool.false_or, Bool.and_eq_true, beq_iff_eq] at h
      obtain ⟨rfl, h2⟩ := h
      rw [if_neg h1, if_neg h1]
      exact cmpB_lt a b h2
theorem cmpB_eq : ∀ a : List UInt8, cmpB a a = 0
  | [] => rfl
  | x :: a => by
    unfold cmpB
    have h : ¬ x < x := UInt8.lt_irrefl x
    rw [if_neg h, if_neg h]
    exact cmpB_eq a
theorem cmpB_gt : ∀ a b : List UInt8, Op.bytesLess a b = false → (a == b) = false → cmpB a b = 1
  | [], [], _, h => by simp at h
  | _ :: _, [], _, _ => rfl
  | [], _ :: _, h, _ => by simp [Op.bytesLess] at h
  | x :: a, y :: b, h, he => by
    unfold Op.bytesLess at h
    unfold cmpB
    simp only [Bool.or_eq_false_iff, decide_eq_false_iff_not, Bool.and_eq_false_iff] at h
    rw [if_neg h.1]
    by_cases hxy : x = y
    · subst hxy
      rw [if_neg h.1]
      have h2 : Op.bytesLess a b = false := by
        rcases h.2 with h3 | h3
        · simp at h3
        · exact h3
      refine cmpB_gt a b h2 ?_
      rw [beq_eq_false_iff_ne] at he ⊢
      exact fun e => he (by rw [e])
    · have : y < x := by
        rw [UInt8.lt_iff_toNat_lt] at h ⊢
        have hne : x.toNat ≠ y.toNat := fun e => hxy (UInt8.toNat_inj.1 e)
        omega
      rw [if_pos this]
end OrdP
namespace Go.Proofs.YtebagmiclfhelaaDoor.OrdLib
open Go.RowKit Go.Lib OrdP Kit OrdRef

def Pure (v : Value) (w : World) (e : Ending) (w' : World) : Prop := e = .returned v ∧ w' = w

set_option maxRecDepth 100000 in
theorem nan64 (x : Int) (w : World) : Calls Tryd.prog 65 #[.int .i64 x] w (Pure (.bool false) w) := by
  go_enter Tryd.func65, Tryd.ntmps65
  go_wp2_with fail
  go_ret
  exact ⟨by simp, rfl⟩
theorem nanS (x : ByteArray) (w : World) : Calls Tryd.prog 66 #[.string x] w (Pure (.bool false) w) := by
  go_enter Tryd.func66, Tryd.ntmps66
  go_wp2_with fail
  go_ret
  exact ⟨by simp, rfl⟩
theorem ret_pure {v v' : Value} {w : World} (h : v = v') : Pure v' w (.returned v) w := ⟨by rw [h], rfl⟩
theorem cmp64 (x y : Int) (w : World) : Calls Tryd.prog 42 #[.int .i64 x, .int .i64 y] w (Pure (.int .i64 (cmpZ x y)) w) := by
  obtain ⟨r, hr⟩ : ∃ r, cmpZ x y = r := ⟨_, rfl⟩
  rw [hr]
  have HR := Lib.hid hr; clear hr
  go_enter Tryd.func42, Tryd.ntmps42
  go_wp2_with ((go_at_call 65; refine (nan64 _ _).mono ?_; rintro _ _ ⟨rfl, rfl⟩))
  all_goals (go_ret; refine ret_pure (congrArg (Value.int .i64) ?_); rw [← HR.out]; unfold cmpZ; repeat (first | rfl | (rw [if_pos (by omega)]) | (rw [if_neg (by omega)])))
theorem cmpS (x y : ByteArray) (w : World) : Calls Tryd.prog 43 #[.string x, .string y] w (Pure (.int .i64 (cmpB x.data.toList y.data.toList)) w) := by
  obtain ⟨r, hr⟩ : ∃ r, cmpB x.data.toList y.data.toList = r := ⟨_, rfl⟩
  rw [hr]
  have HR := Lib.hid hr; clear hr
  cases hl : Op.bytesLess x.toList y.toList with
  | true =>
    have HL := Lib.hid hl
    go_enter Tryd.func43, Tryd.ntmps43
    go_wp2_with ((go_at_call 66; refine (nanS _ _).mono ?_; rintro _ _ ⟨rfl, rfl⟩))
    all_goals (go_ret; refine ret_pure (congrArg (Value.int .i64) ?_); rw [← HR.out, cmpB_lt _ _ (by rw [← ByteArray.toList_eq, ← ByteArray.toList_eq]; exact HL.out)])
  | false =>
    have HL := Lib.hid hl
    cases he : x.toList == y.toList with
    | true =>
      have HE := Lib.hid he
      go_enter Tryd.func43, Tryd.ntmps43
      go_wp2_with ((go_at_call 66; refine (nanS _ _).mono ?_; rintro _ _ ⟨rfl, rfl⟩))
      all_goals (go_ret; refine ret_pure (congrArg (Value.int .i64) ?_); rw [← HR.out]; have hq := eq_of_beq HE.out; rw [ByteArray.toList_eq, ByteArray.toList_eq] at hq; rw [hq]; rw [cmpB_eq])
    | false =>
      have HE := Lib.hid he
      go_enter Tryd.func43, Tryd.ntmps43
      go_wp2_with ((go_at_call 66; refine (nanS _ _).mono ?_; rintro _ _ ⟨rfl, rfl⟩))
      all_goals (go_ret; refine ret_pure (congrArg (Value.int .i64) ?_); rw [← HR.out, cmpB_gt _ _ (by rw [← ByteArray.toList_eq, ← ByteArray.toList_eq]; exact HL.out) (by rw [← ByteArray.toList_eq, ← ByteArray.toList_eq]; exact HE.out)])

/-- The first of three numbers that is not nought. -/
def or3 (x y z : Int) : Int := if x ≠ 0 then x else if y ≠ 0 then y else z
theorem or_any (x y z : Int) (bl : Nat) (w : World) (h0 : w.cell? ⟨bl, 0, none⟩ = some (.int .i64 x)) (h1 : w.cell? ⟨bl, 1, none⟩ = some (.int .i64 y)) (h2 : w.cell? ⟨bl, 2, none⟩ = some (.int .i64 z)) :
    Calls Tryd.prog 40 #[.slice (some ⟨bl, 0, none⟩) 3 3] w (Pure (.int .i64 (or3 x y z)) w) := by
  obtain ⟨r, hr⟩ : ∃ r, or3 x y z = r := ⟨_, rfl⟩
  rw [hr]
  have HR := Lib.hid hr; clear hr
  go_enter Tryd.func40, Tryd.ntmps40
  go_wp2_with fail
  go_loop [8] (fun i => ∃ k : Nat, k ≤ 3 ∧ i = .int .i64 k ∧ Hid ((0 < k → x = 0) ∧ (1 < k → y = 0) ∧ (2 < k → z = 0))) (fun i => 4 - (intOf i).toNat)
  case atStart => exact ⟨0, by omega, rfl, Lib.hid ⟨by omega, by omega, by omega⟩⟩
  case round =>
    obtain ⟨k, hk, rfl, HK⟩ := hrel
    have hk4 : k = 0 ∨ k = 1 ∨ k = 2 ∨ k = 3 := by omega
    clear hk
    have hz : ∀ {u : Int}, ¬ u = 0 → (u != 0) = true := fun h => by simpa using h
    rcases hk4 with rfl | rfl | rfl | rfl
    · by_cases hx : x = 0
      · subst hx
        go_wp2_with fail
        exact ⟨⟨1, by omega, by simp, Lib.hid (by simp)⟩, by simp [intOf]⟩
      · have hb := hz hx
        have HX := Lib.hid hx; clear hx
        go_wp2_with fail
        go_ret
        exact ret_pure (congrArg (Value.int .i64) (by rw [← HR.out, or3, if_pos HX.out]))
    · obtain rfl : x = 0 := HK.out.1 (by omega)
      by_cases hx : y = 0
      · subst hx
        go_wp2_with fail
        exact ⟨⟨2, by omega, by simp, Lib.hid (by simp)⟩, by simp [intOf]⟩
      · have hb := hz hx
        have HX := Lib.hid hx; clear hx
        go_wp2_with fail
        go_ret
        exact ret_pure (congrArg (Value.int .i64) (by rw [← HR.out, or3, if_neg (by simp), if_pos HX.out]))
    · obtain rfl : x = 0 := HK.out.1 (by omega)
      obtain rfl : y = 0 := HK.out.2.1 (by omega)
      by_cases hx : z = 0
      · subst hx
        go_wp2_with fail
        exact ⟨⟨3, by omega, by simp, Lib.hid (by simp)⟩, by simp [intOf]⟩
      · have hb := hz hx
        have HX := Lib.hid hx; clear hx
        go_wp2_with fail
        go_ret
        exact ret_pure (congrArg (Value.int .i64) (by rw [← HR.out, or3, if_neg (by simp), if_neg (by simp)]))
    · obtain rfl : x = 0 := HK.out.1 (by omega)
      obtain rfl : y = 0 := HK.out.2.1 (by omega)
      obtain rfl : z = 0 := HK.out.2.2 (by omega)
      go_wp2_with fail
      go_ret
      exact ret_pure (congrArg (Value.int .i64) (by rw [← HR.out, or3, if_neg (by simp), if_neg (by simp)]))
theorem cmpF_or (a b : KeyD) : or3 (cmpZ a.kind b.kind) (cmpZ a.num b.num) (cmpB a.text.data.toList b.text.data.toList) = cmpF a b := rfl
theorem cmpZ_eq (a b : Int) : Lib.compareInt a b = cmpZ a b := by unfold Lib.compareInt cmpZ; rfl

set_option maxRecDepth 100000 in
theorem compare_any (a b : KeyD) (w : World) : Calls Tryd.prog 14 #[a.v, b.v] w (IntB (cmpF a b) w) := by
  rw [← cmpF_or]
  obtain ⟨k1, n1, t1⟩ := a
  obtain ⟨k2, n2, t2⟩ := b
  unfold KeyD.v
  dsimp only
  obtain ⟨x, hx⟩ : ∃ x, cmpZ k1 k2 = x := ⟨_, rfl⟩
  obtain ⟨y, hy⟩ : ∃ y, cmpZ n1 n2 = y := ⟨_, rfl⟩
  obtain ⟨z, hz⟩ : ∃ z, cmpB t1.data.toList t2.data.toList = z := ⟨_, rfl⟩
  rw [hx, hy, hz]
  have HX : ∀ w, Calls Tryd.prog 41 #[.int .i64 k1, .int .i64 k2] w (Pure (.int .i64 x) w) := by intro w; rw [← hx, ← cmpZ_eq]; exact Tryd.cmp_Compare_int k1 k2 w
  have HY : ∀ w, Calls Tryd.prog 42 #[.int .i64 n1, .int .i64 n2] w (Pure (.int .i64 y) w) := by intro w; rw [← hy]; exact cmp64 n1 n2 w
  have HZ : ∀ w, Calls Tryd.prog 43 #[.string t1, .string t2] w (Pure (.int .i64 z) w) := by intro w; rw [← hz]; exact cmpS t1 t2 w
  clear hx hy hz
  have HX := Lib.hid HX; have HY := Lib.hid HY; have HZ := Lib.hid HZ
  go_enter Tryd.func14, Tryd.ntmps14
  go_upto_region 1 with fail
  obtain ⟨wA, hA⟩ : ∃ wA : World, wA = (w.alloc (.cells #[.int .i64 k1, .int .i64 n1, .string t1] 35)).alloc (.cells #[.int .i64 k2, .int .i64 n2, .string t2] 35) := ⟨_, rfl⟩
  rw [← hA]
  have hBA : Below w.heap.size w wA := by rw [hA]; exact ((Below.refl _ _).alloc (Nat.le_refl _) _).alloc (by simp) _
  have a0 : wA.cell? ⟨w.heap.size, 0, none⟩ = some (.int .i64 k1) := by rw [hA]; go_simp
  have a1 : wA.cell? ⟨w.heap.size, 1, none⟩ = some (.int .i64 n1) := by rw [hA]; go_simp
  have a2 : wA.cell? ⟨w.heap.size, 2, none⟩ = some (.string t1) := by rw [hA]; go_simp
  have b0 : wA.cell? ⟨w.heap.size + 1, 0, none⟩ = some (.int .i64 k2) := by rw [hA]; go_simp
  have b1 : wA.cell? ⟨w.heap.size + 1, 1, none⟩ = some (.int .i64 n2) := by rw [hA]; go_simp
  have b2 : wA.cell? ⟨w.heap.size + 1, 2, none⟩ = some (.string t2) := by rw [hA]; go_simp
  clear hA
  refine wp_region_still_tail 15 (by kernel_rfl) (by kernel_rfl) ?_
  simp only [List.take_succ_cons, List.take_zero, List.drop_succ_cons, List.drop_zero]
  have hBW : Below w.heap.size w ({ wA with drawn := wA.drawn + 1 } : World) := hBA.trans ⟨rfl, rfl, rfl, Nat.le_refl _, fun _ _ => rfl⟩
  have A0 : ({ wA with drawn := wA.drawn + 1 } : World).cell? ⟨w.heap.size, 0, none⟩ = some (.int .i64 k1) := a0
  have A1 : ({ wA with drawn := wA.drawn + 1 } : World).cell? ⟨w.heap.size, 1, none⟩ = some (.int .i64 n1) := a1
  have A2 : ({ wA with drawn := wA.drawn + 1 } : World).cell? ⟨w.heap.size, 2, none⟩ = some (.string t1) := a2
  have B0 : ({ wA with drawn := wA.drawn + 1 } : World).cell? ⟨w.heap.size + 1, 0, none⟩ = some (.int .i64 k2) := b0
  have B1 : ({ wA with drawn := wA.drawn + 1 } : World).cell? ⟨w.heap.size + 1, 1, none⟩ = some (.int .i64 n2) := b1
  have B2 : ({ wA with drawn := wA.drawn + 1 } : World).cell? ⟨w.heap.size + 1, 2, none⟩ = some (.string t2) := b2
  clear a0 a1 a2 b0 b1 b2 hBA
  generalize ({ wA with drawn := wA.drawn + 1 } : World) = W at *
  repeat still_step
  still_call (HX.out _)
  repeat still_step
  still_call (HY.out _)
  repeat still_step
  still_call (HZ.out _)
  refine wpStill_nil ?_
  change wpList _ _ _ _ _ _
  go_wp2_with fail
  have c : ∀ (i : Nat) (u : Value), (#[Value.int .i64 x, .int .i64 y, .int .i64 z])[i]? = some u → (W.alloc (.cells #[.int .i64 x, .int .i64 y, .int .i64 z] 3)).cell? ⟨W.heap.size, i, none⟩ = some u := by
    intro i u hu
    rw [World.cell?_alloc_new, hu]
  refine (or_any x y z _ _ (c 0 _ rfl) (c 1 _ rfl) (c 2 _ rfl)).mono ?_
  rintro _ _ ⟨rfl, rfl⟩
  go_wp2_with fail
  go_ret
  exact ⟨rfl, hBW.alloc hBW.size _⟩
end Go.Proofs.YtebagmiclfhelaaDoor.OrdLib
