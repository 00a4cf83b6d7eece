/- Contract: the document's Depth. -/
import Derived.Test.YtinmiekbhoemjaaDoorPack30
set_option linter.unusedVariables false
namespace Go.Proofs.YtinmiekbhoemjaaDoor.Qry
open Go.RowKit Words Tree QryP Kit Sch

set_option maxRecDepth 100000 in
set_option maxHeartbeats 4000000 in
theorem rdepth_any : ∀ (n : Nat) (q : QT) (vs : List Value) (w : World), q.sz ≤ n → T.AtL bare w (fun g => g < w.heap.size) (cells q) vs → depthF q ≤ 1000000000 →
    Calls Tryd.prog 12 #[.agg vs.toArray] w (IntQ (depthF q) w)
  | n, .mk kd oc f t u lo hi b op ks, vs, w, hn, ha, hd => by
    have IH := Lib.hid (fun (k : QT) (hk : k ∈ ks) (us : List Value) (W : World) (hu : T.AtL bare W (fun g => g < W.heap.size) (cells k) us) => rdepth_any (n - 1) k us W (by have := QT.sz_kid (kd := kd) (oc := oc) (f := f) (t := t) (u := u) (lo := lo) (hi := hi) (b := b) (op := op) hk; omega) hu (by have := depthL_le hk; rw [depthF] at hd; omega))
    have hn1 : 1 ≤ n := by have := QT.sz_pos (.mk kd oc f t u lo hi b op ks); omega
    obtain ⟨vl, vh, vk, rfl, hl, hh, hk⟩ := at_cells ha
    obtain ⟨A1, c1, rfl, _⟩ := at_ints hl
    obtain ⟨A2, c2, rfl, _⟩ := at_ints hh
    obtain ⟨A, cA, rfl, hcA, hmA, hel⟩ := at_kids hk
    have EL := Lib.hid hel
    have hdl : depthL ks ≤ 999999999 := by rw [depthF] at hd; omega
    have HDF : Hid (depthF (.mk kd oc f t u lo hi b op ks) = depthL ks + 1) := Lib.hid (by rw [depthF])
    have hkm : ks.length ≤ 9223372036854775807 := by unfold maxLen at hmA; omega
    have HQB := Lib.hid (fun (W : World) (hW : Below (w.heap.size + 1) (w.alloc (.cells #[.int .i64 kd, .int .i64 oc, .string f, .string t, .string u, .slice A1 lo.length c1, .slice A2 hi.length c2, .int .i64 b, .int .i64 op, .slice A ks.length cA] 25)) W) => ((Blk.new w 25 #[.int .i64 kd, .int .i64 oc, .string f, .string t, .string u, .slice A1 lo.length c1, .slice A2 hi.length c2, .int .i64 b, .int .i64 op, .slice A ks.length cA]).below hW (by omega)).cell 9)
    clear ha hl hh hk hel hd hn hn1
    go_enter Tryd.func12, Tryd.ntmps12
    go_wp2_with fail
    have hw0 : Below (w.heap.size + 1) (w.alloc (.cells #[.int .i64 kd, .int .i64 oc, .string f, .string t, .string u, .slice A1 lo.length c1, .slice A2 hi.length c2, .int .i64 b, .int .i64 op, .slice A ks.length cA] 25)) (w.alloc (.cells #[.int .i64 kd, .int .i64 oc, .string f, .string t, .string u, .slice A1 lo.length c1, .slice A2 hi.length c2, .int .i64 b, .int .i64 op, .slice A ks.length cA] 25)) := Below.refl _ _
    have hz0 : (w.alloc (.cells #[.int .i64 kd, .int .i64 oc, .string f, .string t, .string u, .slice A1 lo.length c1, .slice A2 hi.length c2, .int .i64 b, .int .i64 op, .slice A ks.length cA] 25)).heap.size = w.heap.size + 1 := by simp
    have hww : Below w.heap.size w (w.alloc (.cells #[.int .i64 kd, .int .i64 oc, .string f, .string t, .string u, .slice A1 lo.length c1, .slice A2 hi.length c2, .int .i64 b, .int .i64 op, .slice A ks.length cA] 25)) := (Below.refl _ w).alloc (Nat.le_refl _) _
    generalize w.alloc (.cells #[.int .i64 kd, .int .i64 oc, .string f, .string t, .string u, .slice A1 lo.length c1, .slice A2 hi.length c2, .int .i64 b, .int .i64 op, .slice A ks.length cA] 25) = W0 at *
    have H0 := Lib.hid hw0
    have HZ0 := Lib.hid hz0; have HWW := Lib.hid hww
    clear hw0 hz0 hww
    go_loopw [3, 4] (fun d i wr => ∃ k : Nat, k ≤ ks.length ∧ i = .int .i64 k ∧ d = .int .i64 (depthL (ks.take k)) ∧ Hid (Below (w.heap.size + 1) W0 wr)) (fun _ i _ => ks.length - (intOf i).toNat)
    case atStart => exact ⟨0, by omega, rfl, rfl, H0⟩
    case round =>
      obtain ⟨k, hk, rfl, rfl, HB⟩ := hrel
      have q9 := HQB.out _ HB.out
      have HBw := Lib.hid (HWW.out.trans (HB.out.mono (by omega)))
      by_cases hlt : k < ks.length
      · have hlt2 : (k : Int) < (ks.length : Int) := by omega
        obtain ⟨ad, us, rfl, hba, au, lu, cu⟩ := EL.out k hlt
        replace cu := cu.keep (w' := wr) (fun p hp => HBw.out.cell (by rw [hp, block_of_add]; exact hba))
        have HAU := Lib.hid (IH.out ks[k] (List.getElem_mem _) us wr (atL_ltw au HBw.out))
        have HDK : Hid (depthL (ks.take (k + 1)) = max (depthL (ks.take k)) (depthF ks[k])) := Lib.hid (by rw [List.take_succ_eq_append_getElem hlt, depthL_snoc])
        generalize hq : ks[k] = q at *
        obtain ⟨kd', oc', f', t', u', lo', hi', b', op', ks'⟩ := q
        obtain ⟨vl, vh, vk, rfl, hl, hh, hkk⟩ := at_cells au
        obtain ⟨B1, d1, rfl, _⟩ := at_ints hl
        obtain ⟨B2, d2, rfl, _⟩ := at_ints hh
        obtain ⟨B3, d3, rfl⟩ := at_sl hkk
        obtain ⟨a0, a1, a2, a3, a4, a5, a6, a7, a8, a9⟩ := ten cu
        clear hq au hl hh hkk cu lu
        go_wp2_with fail
        refine HAU.out.mono ?_
        rintro e w2 ⟨rfl, hb⟩
        have HB2 := Lib.hid (HB.out.trans (hb.mono (by have := HB.out.size; have := HZ0.out; omega)))
        clear hb a0 a1 a2 a3 a4 a5 a6 a7 a8 a9 HAU q9
        generalize depthF (.mk kd' oc' f' t' u' lo' hi' b' op' ks') = d2 at *
        generalize depthL (ks.take k) = d1 at *
        by_cases hgt : d1 < d2
        · have h1 : decide ((d1 : Int) < (d2 : Int)) = true := decide_eq_true (by omega)
          go_wp2_with fail
          go_roundw
          case rel => exact ⟨k + 1, by omega, by go_num, by rw [HDK.out]; congr 1; omega, HB2⟩
          case measure => simp [intOf]; omega
        · have h1 : decide ((d1 : Int) < (d2 : Int)) = false := decide_eq_false (by omega)
          go_wp2_with fail
          go_roundw
          case rel => exact ⟨k + 1, by omega, by go_num, by rw [HDK.out]; congr 1; omega, HB2⟩
          case measure => simp [intOf]; omega
      · obtain rfl : k = ks.length := by omega
        rw [List.take_length]
        go_wp2_with fail
        go_ret
        rw [HDF.out]
        exact ⟨by congr 2, HBw.out⟩
end Go.Proofs.YtinmiekbhoemjaaDoor.Qry
