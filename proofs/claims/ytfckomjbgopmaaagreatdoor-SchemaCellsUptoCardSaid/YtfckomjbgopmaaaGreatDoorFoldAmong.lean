/- Contracts of the document's answers for letters, digits, marks and lower case. -/
import Derived.Test.YtfckomjbgopmaaaGreatDoorFoldInts
namespace Go.Proofs.YtfckomjbgopmaaaGreatDoor.FoldAmong
open Go.RowKit FoldP FoldInts Kit

set_option maxHeartbeats 400000 in
theorem among_any (r : Int) (bl n c : Nat) (zs : List Int) (w : World) (hz : n = zs.length) (hn : n ≤ 1000)
    (hc : ∀ i, i < n → w.cell? ⟨bl, i, none⟩ = some (.int .i32 (zs.getD i 0))) :
    Calls Tryz.prog 153 #[.int .i32 r, .slice (some ⟨bl, 0, none⟩) n c] w (BoolRet (amongB r zs) w) := by
  have HZ := Lib.hid hz; clear hz
  have HC := Lib.hid hc; clear hc
  go_enter Tryz.func153, Tryz.ntmps153
  go_wp2
  go_loop [5] (fun i => ∃ k : Nat, k ≤ n + 1 ∧ i = .int .i64 k ∧ amongB r zs = amongB r (zs.drop k)) (fun i => n + 2 - (intOf i).toNat)
  case atStart => exact ⟨0, Nat.zero_le _, rfl, rfl⟩
  case round =>
    obtain ⟨k, hk, rfl, hrest⟩ := hrel
    have HR := Lib.hid hrest; clear hrest
    by_cases hlt : k + 1 < n
    · have h0 : w.cell? ⟨bl, k, none⟩ = some (.int .i32 (zs.getD k 0)) := HC.out k (by omega)
      have h1 : w.cell? ⟨bl, k + 1, none⟩ = some (.int .i32 (zs.getD (k + 1) 0)) := HC.out (k + 1) (by omega)
      generalize hx : zs.getD k 0 = x at *
      generalize hy : zs.getD (k + 1) 0 = y at *
      have HX := Lib.hid hx; clear hx
      have HY := Lib.hid hy; clear hy
      have HS : Hid (amongB r (zs.drop k) = (inB r x y || amongB r (zs.drop (k + 2)))) := Lib.hid (by rw [← HX.out, ← HY.out]; exact among_step r zs k (by rw [← HZ.out]; exact hlt))
      have e0 : ¬ x ≤ r → inB r x y = false := fun h => inB_false.2 (by omega)
      have e1 : y < r → inB r x y = false := fun h => inB_false.2 (by omega)
      have e2 : x ≤ r → r ≤ y → inB r x y = true := fun h h' => inB_true.2 ⟨h, h'⟩
      have E0 := Lib.hid e0; clear e0
      have E1 := Lib.hid e1; clear e1
      have E2 := Lib.hid e2; clear e2
      go_wp2
      · go_ret
        exact ⟨ret_bool (by rw [HR.out, HS.out, E2.out ‹_› ‹_›]; rfl), rfl⟩
      · exact ⟨⟨k + 2, by omega, by go_num, by rw [HR.out, HS.out, E1.out ‹_›]; rfl⟩, by simp [intOf]; omega⟩
      · exact ⟨⟨k + 2, by omega, by go_num, by rw [HR.out, HS.out, E0.out ‹_›]; rfl⟩, by simp [intOf]; omega⟩
    · go_wp2
      go_ret
      exact ⟨ret_bool (by rw [HR.out, among_done r zs k (by rw [← HZ.out]; exact hlt)]), rfl⟩

/-- A bool is answered; new memory may have been made, nothing else has changed. -/
def BoolBelow (b : Bool) (w : World) (e : Ending) (w' : World) : Prop := e = .returned (.bool b) ∧ Below w.heap.size w w'

theorem listCells (w : World) (zs : List Int) (t : TypeId) :
    ∀ i, i < zs.length → (w.alloc (.cells (zs.map (Value.int .i32)).toArray t)).cell? ⟨w.heap.size, i, none⟩ = some (.int .i32 (zs.getD i 0)) := by
  intro i hi
  rw [World.cell?_alloc_new]
  simp [List.getD_eq_getElem?_getD, List.getElem?_eq_getElem hi]

/-- 'among' at a list that has just been laid. -/
theorem among_new (r : Int) (zs : List Int) (w : World) (t : TypeId) (hn : zs.length ≤ 1000) :
    Calls Tryz.prog 153 #[.int .i32 r, .slice (some ⟨w.heap.size, 0, none⟩) zs.length zs.length]
      (w.alloc (.cells (zs.map (Value.int .i32)).toArray t)) (BoolRet (amongB r zs) (w.alloc (.cells (zs.map (Value.int .i32)).toArray t))) :=
  among_any r w.heap.size zs.length zs.length zs _ rfl hn (listCells w zs t)

/-- 'among' at a list that has just been laid, both ways. -/
theorem among_split (r : Int) (zs : List Int) (w : World) (t : TypeId) (n : Nat) (p : Prop) (hn : zs.length ≤ 1000) (hp : amongB r zs = true ↔ p) (hb : p → 0 ≤ r ∧ r ≤ 2000) {R : Ending → World → Prop}
    (hs : n = w.heap.size) (ht : p → 0 ≤ r → r ≤ 2000 → R (.returned (.bool true)) (w.alloc (.cells (zs.map (Value.int .i32)).toArray t)))
    (hf : ¬ p → R (.returned (.bool false)) (w.alloc (.cells (zs.map (Value.int .i32)).toArray t))) :
    Calls Tryz.prog 153 #[.int .i32 r, .slice (some ⟨n, 0, none⟩) zs.length zs.length]
      (w.alloc (.cells (zs.map (Value.int .i32)).toArray t)) R := by
  subst hs
  refine (among_new r zs w t hn).mono ?_
  rintro e w' ⟨rfl, rfl⟩
  cases h : amongB r zs
  · exact hf (fun hh => by rw [hp.2 hh] at h; cases h)
  · have := hb (hp.1 h); exact ht (hp.1 h) this.1 this.2

theorem bdA {r : Int} (h : isA r) : 0 ≤ r ∧ r ≤ 2000 := by unfold isA at h; omega
theorem bdB {r : Int} (h : isB r) : 0 ≤ r ∧ r ≤ 2000 := by unfold isB at h; omega
theorem bdC {r : Int} (h : isC r) : 0 ≤ r ∧ r ≤ 2000 := by unfold isC at h; omega

def IntBelow (n : Int) (w : World) (e : Ending) (w' : World) : Prop := e = .returned (.int .i32 n) ∧ Below w.heap.size w w'

set_option maxHeartbeats 1000000 in
theorem refLower_any (r : Int) (w : World) :
    Calls Tryz.prog 152 #[.int .i32 r] w (IntBelow (lowerF r) w) := by
  go_enter Tryz.func152, Tryz.ntmps152
  go_wp2_with fail
  refine among_split r low1 _ _ _ (isA r) (by decide) (among_low1 r) bdA (by simp) ?_ ?_ <;> intros
  · go_wp2_with fail
    go_ret
    exact ⟨ret_int (low_A r (by assumption)), by repeat (first | exact Below.refl _ _ | refine Below.alloc ?_ (by simp; try omega) _)⟩
  go_wp2_with fail
  refine among_split r low2 _ _ _ (isB r) (by decide) (among_low2 r) bdB (by simp) ?_ ?_ <;> intros
  · go_wp2_with fail
    go_ret
    exact ⟨ret_int (low_B' r (by assumption)), by repeat (first | exact Below.refl _ _ | refine Below.alloc ?_ (by simp; try omega) _)⟩
  go_wp2_with fail
  refine among_split r low3 _ _ _ (isC r) (by decide) (among_low3 r) bdC (by simp) ?_ ?_ <;> intros
  · go_wp2_with fail
    go_ret
    exact ⟨ret_int (low_C' r (by assumption)), by repeat (first | exact Below.refl _ _ | refine Below.alloc ?_ (by simp; try omega) _)⟩
  go_wp2_with fail
  refine among_split r l904 _ _ _ (0x388 ≤ r ∧ r ≤ 0x38A) (by decide) (among_904 r) (fun _ => by omega) (by simp) ?_ ?_ <;> intros
  · go_wp2_with fail
    go_ret
    exact ⟨ret_int (low_D r (by assumption)), by repeat (first | exact Below.refl _ _ | refine Below.alloc ?_ (by simp; try omega) _)⟩
  go_wp2_with fail
  refine among_split r l910 _ _ _ (0x38E ≤ r ∧ r ≤ 0x38F) (by decide) (among_910 r) (fun _ => by omega) (by simp) ?_ ?_ <;> intros
  · go_wp2_with fail
    go_ret
    exact ⟨ret_int (low_E r (by assumption)), by repeat (first | exact Below.refl _ _ | refine Below.alloc ?_ (by simp; try omega) _)⟩
  go_wp2_with fail
  refine among_split r l1024 _ _ _ (0x400 ≤ r ∧ r ≤ 0x40F) (by decide) (among_1024 r) (fun _ => by omega) (by simp) ?_ ?_ <;> intros
  · go_wp2_with fail
    go_ret
    exact ⟨ret_int (low_F r (by assumption)), by repeat (first | exact Below.refl _ _ | refine Below.alloc ?_ (by simp; try omega) _)⟩
  go_wp2_with fail
  all_goals go_ret
  all_goals go_light
  all_goals (simp only [beq_iff_eq, beq_eq_false_iff_ne] at *)
  all_goals refine ⟨ret_int ?_, by repeat (first | exact Below.refl _ _ | refine Below.alloc ?_ (by simp; try omega) _)⟩
  · have e1 : r = 0x178 := by assumption
    subst e1; exact low_178.symm
  · have e1 : r = 0x4C0 := by assumption
    subst e1; exact low_4C0.symm
  · have e1 : r = 0x386 := by assumption
    subst e1; exact low_386.symm
  · have e1 : r = 0x38C := by assumption
    subst e1; exact low_38C.symm
  · exact low_id r ‹_› ‹_› ‹_› ‹_› ‹_› ‹_› ‹_› ‹_› ‹_› ‹_›

end Go.Proofs.YtfckomjbgopmaaaGreatDoor.FoldAmong
