/- Contracts: two rows of integers compared. -/
import Derived.Test.YtinmiekbhoemjaaDoorQry
import Derived.Deep.QuietTactic
import Derived.BigQuiet
import Derived.StillTailTactics
import Derived.LoopTactic
set_option linter.unusedVariables false
namespace Go.Proofs.YtinmiekbhoemjaaDoor.Qry
open Go.RowKit Words Tree QryP Kit

def BoolB (b : Bool) (w : World) (e : Ending) (w' : World) : Prop := e = .returned (.bool b) ∧ Below w.heap.size w w'
/-- Element k of a row of integers that is read. -/
theorem reads_int {w : World} {B : Nat} {A : Option Addr} {l : List Int} {i : IntKind} (h : Reads w B 1 A l.length (l.map (Value.int i))) {k : Nat} (hk : k < l.length) :
    ∃ ad, A = some ad ∧ ad.block < B ∧ w.cell? (ad.add k) = some (.int i l[k]) := by
  obtain ⟨ad, e, hb, hc⟩ := h.2 (by omega)
  exact ⟨ad, e, hb, hc k _ (by simp [hk])⟩
theorem below_drewN' {w : World} (n : Nat) : Below w.heap.size w (w.drewN n) := ⟨rfl, rfl, rfl, Nat.le_refl _, fun _ _ => rfl⟩
theorem take_snoc {α : Type} {l : List α} {k : Nat} (h : k < l.length) : l.take (k + 1) = l.take k ++ [l[k]] := List.take_succ_eq_append_getElem h

set_option maxRecDepth 100000 in
theorem int64s_any (ao bo : Option Addr) (c d : Nat) (xs ys : List Int) (w : World) (ha : Reads w w.heap.size 1 ao xs.length (xs.map (Value.int .i64))) (hb : Reads w w.heap.size 1 bo ys.length (ys.map (Value.int .i64))) (hla : xs.length * 8 ≤ 140737488351232) (hlb : ys.length * 8 ≤ 140737488351232) (r : Bool) (hr : r = true ↔ xs = ys) :
    Calls Tryd.prog 30 #[.slice ao xs.length c, .slice bo ys.length d] w (BoolB r w) := by
  have HA := Lib.hid ha; have HB := Lib.hid hb; have HR := Lib.hid hr
  clear ha hb hr
  by_cases hl : xs.length = ys.length
  · have HL := Lib.hid hl
    have hbne : ((xs.length : Int) != (ys.length : Int)) = false := by rw [hl]; simp
    clear hl
    go_enter Tryd.func30, Tryd.ntmps30
    go_wp2_with fail
    go_loopw [5] (fun i wr => ∃ (k m : Nat), k ≤ xs.length ∧ i = .int .i64 k ∧ Hid (xs.take k = ys.take k) ∧ wr = w.drewN m) (fun i _ => xs.length - (intOf i).toNat)
    case atStart => exact ⟨0, 0, by omega, rfl, Lib.hid (by simp), rfl⟩
    case round =>
      obtain ⟨k, m, hk, rfl, HE, rfl⟩ := hrel
      by_cases hlt : k < xs.length
      · have hlt2 : k < ys.length := by have := HL.out; omega
        obtain ⟨ad, rfl, hba, a0⟩ := reads_int HA.out hlt
        obtain ⟨bd, rfl, hbb, b0⟩ := reads_int HB.out hlt2
        have HST : Hid (xs.take (k + 1) = xs.take k ++ [xs[k]] ∧ ys.take (k + 1) = ys.take k ++ [ys[k]]) := Lib.hid ⟨take_snoc hlt, take_snoc hlt2⟩
        have HNE : Hid (¬ xs[k] = ys[k] → r = false) := Lib.hid (fun h => by
          cases hr0 : r with
          | false => rfl
          | true =>
            have e := HR.out.1 hr0
            subst e
            exact absurd rfl h)
        by_cases he : xs[k] = ys[k]
        · have HQ := Lib.hid he
          rw [← he] at b0
          clear he HNE
          generalize hx : xs[k] = x at *
          clear hx
          go_wp2_with fail
          go_quiet (fail)
          go_wp2_with fail
          go_roundw
          case rel => exact ⟨k + 1, _, by omega, by go_num, Lib.hid (by rw [HST.out.1, HST.out.2, HE.out, ← HQ.out]), by first | rfl | (rw [World.drewN_drewN])⟩
          case measure => simp [intOf]; omega
        · have HRF := Lib.hid (HNE.out he)
          have hne : (xs[k] != ys[k]) = true := by rw [bne_iff_ne]; exact he
          clear he HNE HST
          generalize xs[k] = x at *
          generalize ys[k] = y at *
          go_wp2_with fail
          go_quiet (fail)
          go_wp2_with fail
          go_ret
          rw [HRF.out]
          exact ⟨rfl, ⟨rfl, rfl, rfl, Nat.le_refl _, fun _ _ => rfl⟩⟩
      · obtain rfl : k = xs.length := by omega
        have hT : r = true := by
          rw [HR.out]
          have := HE.out
          rw [List.take_of_length_le (Nat.le_refl _), HL.out, List.take_of_length_le (Nat.le_refl _)] at this
          exact this
        have HRT := Lib.hid hT
        clear hT
        go_wp2_with fail
        go_ret
        rw [HRT.out]
        exact ⟨rfl, below_drewN' _⟩
  · have hbne : ((xs.length : Int) != (ys.length : Int)) = true := by rw [bne_iff_ne]; omega
    have HRF : Hid (r = false) := Lib.hid (by
      cases hr0 : r with
      | false => rfl
      | true => exact absurd (by rw [HR.out.1 hr0]) hl)
    clear hl
    go_enter Tryd.func30, Tryd.ntmps30
    go_wp2_with fail
    go_ret
    rw [HRF.out]
    exact ⟨rfl, Below.refl _ _⟩

end Go.Proofs.YtinmiekbhoemjaaDoor.Qry
