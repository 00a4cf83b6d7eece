/- Contract: the document's formed. Written by gen_rformed.py. -/
import Derived.Test.YtinmiekbhoemjaaDoorQryROwnA
import Derived.Test.YtinmiekbhoemjaaDoorQryRDepth
import Derived.Deep.RegionHeld3
set_option linter.unusedVariables false
namespace Go.Proofs.YtinmiekbhoemjaaDoor.Qry
open Go.RowKit Words Tree QryP Kit Sch

set_option maxRecDepth 100000 in
set_option maxHeartbeats 8000000 in
theorem rformed_any : ∀ (n : Nat) (q : QT) (vs : List Value) (under : Int) (w : World), q.sz ≤ n → Ok q → T.AtL bare w (fun g => g < w.heap.size) (cells q) vs →
    Calls Tryd.prog 25 #[.agg vs.toArray, .int .i64 under] w (AnsB (formedB under q) w)
  | n, .mk kd oc f t u lo hi b op ks, vs, under, w, hn, hok, ha => by
    have hn1 : 1 ≤ n := by have := QT.sz_pos (.mk kd oc f t u lo hi b op ks); omega
    cases hok with
    | mk hkd hoc hf ht hu hlo hhi hb hop hks hkk =>
    have IH := Lib.hid (fun (k : QT) (hk : k ∈ ks) (us : List Value) (un : Int) (W : World) (hu : T.AtL bare W (fun g => g < W.heap.size) (cells k) us) => rformed_any (n - 1) k us un W (by have := QT.sz_kid (kd := kd) (oc := oc) (f := f) (t := t) (u := u) (lo := lo) (hi := hi) (b := b) (op := op) hk; omega) (hkk k hk) hu)
    obtain ⟨vl, vh, vk, rfl, hl, hh, hk⟩ := at_cells ha
    obtain ⟨A1, c1, rfl, _⟩ := at_ints hl
    obtain ⟨A2, c2, rfl, _⟩ := at_ints hh
    obtain ⟨A, cA, rfl, hcA, hmA, hel⟩ := at_kids hk
    have EL := Lib.hid hel
    have HO := Lib.hid (fun W => rown_any kd oc f t u lo hi b op ks A1 A2 A c1 c2 cA under W hf)
    have HF := Lib.hid (formedB_eq under (.mk kd oc f t u lo hi b op ks))
    have hkm : ks.length ≤ 9223372036854775807 := by unfold maxLen at hmA; omega
    rw [HF.out]
    obtain ⟨p, hp⟩ : ∃ p, ownB (.mk kd oc f t u lo hi b op ks) under = p := ⟨_, rfl⟩
    rw [hp] at HO ⊢
    show Calls _ _ _ _ (AnsB (p && formedL kd ks) w)
    obtain ⟨r, hr⟩ : ∃ r, formedL kd ks = r := ⟨_, rfl⟩
    have HE0 : Hid (formedL kd (ks.drop 0) = r) := Lib.hid hr
    rw [hr]
    clear hr
    clear hp ha hl hh hk hel hkd hoc ht hu hlo hhi hb hop hks hkk hn hn1 hf HF
    go_enter Tryd.func25, Tryd.ntmps25
    go_wp2_with fail
    have hww : Below w.heap.size w (w.alloc (.cells #[.int .i64 kd, .int .i64 oc, .string f, .string t, .string u, .slice A1 lo.length c1, .slice A2 hi.length c2, .int .i64 b, .int .i64 op, .slice A ks.length cA] 25)) := (Below.refl _ w).alloc (Nat.le_refl _) _
    have hz0 : (w.alloc (.cells #[.int .i64 kd, .int .i64 oc, .string f, .string t, .string u, .slice A1 lo.length c1, .slice A2 hi.length c2, .int .i64 b, .int .i64 op, .slice A ks.length cA] 25)).heap.size = w.heap.size + 1 := by simp
    have hqb : Blk (w.alloc (.cells #[.int .i64 kd, .int .i64 oc, .string f, .string t, .string u, .slice A1 lo.length c1, .slice A2 hi.length c2, .int .i64 b, .int .i64 op, .slice A ks.length cA] 25)) w.heap.size 25 #[.int .i64 kd, .int .i64 oc, .string f, .string t, .string u, .slice A1 lo.length c1, .slice A2 hi.length c2, .int .i64 b, .int .i64 op, .slice A ks.length cA] := Blk.new w _ _
    generalize w.alloc (.cells #[.int .i64 kd, .int .i64 oc, .string f, .string t, .string u, .slice A1 lo.length c1, .slice A2 hi.length c2, .int .i64 b, .int .i64 op, .slice A ks.length cA] 25) = W0 at *
    have HZ0 := Lib.hid hz0; have HWW := Lib.hid hww; have HQB := Lib.hid hqb
    clear hww hz0 hqb
    refine (HO.out _).mono ?_
    rintro e W1 ⟨rfl, hb⟩
    have H1 : Hid (Below (w.heap.size + 1) W0 W1) := Lib.hid (by rw [← HZ0.out]; exact hb)
    clear hb
    cases p with
    | false =>
      go_wp2_with fail
      go_ret
      exact ⟨rfl, HWW.out.trans (H1.out.mono (by omega))⟩
    | true =>
      go_wp2_with fail
      go_loopw [5] (fun i wr => ∃ k : Nat, k ≤ ks.length ∧ i = .int .i64 k ∧ Hid (formedL kd (ks.drop k) = r) ∧ Hid (Below (w.heap.size + 1) W0 wr)) (fun i _ => ks.length - (intOf i).toNat)
      case atStart => exact ⟨0, by omega, rfl, HE0, H1⟩
      case round =>
        clear HE0 H1
        obtain ⟨k, hk, rfl, HE, HB⟩ := hrel
        have q9 := (HQB.out.below HB.out (by omega)).cell 9
        have HBw := Lib.hid (HWW.out.trans (HB.out.mono (by omega)))
        by_cases hlt : k < ks.length
        · have hlt2 : (k : Int) < (ks.length : Int) := by omega
          obtain ⟨ad, us, rfl, hba, au, lu, cu⟩ := EL.out k hlt
          have HAU := Lib.hid (fun (W : World) (hW : Below w.heap.size w W) => IH.out ks[k] (List.getElem_mem _) us kd W (atL_ltw au hW))
          have HCU := Lib.hid (fun (W : World) (hW : Below w.heap.size w W) => cu.keep (w' := W) (fun p hp => hW.cell (by rw [hp, block_of_add]; exact hba)))
          have HD := Lib.hid (formedL_step (u := kd) hlt)
          generalize hq : ks[k] = q at *
          obtain ⟨kd', oc', f', t', u', lo', hi', b', op', ks'⟩ := q
          obtain ⟨vl, vh, vk, rfl, hl, hh, hkk⟩ := at_cells au
          obtain ⟨B1, d1, rfl, _⟩ := at_ints hl
          obtain ⟨B2, d2, rfl, _⟩ := at_ints hh
          obtain ⟨B3, d3, rfl⟩ := at_sl hkk
          clear hq au hl hh hkk cu lu
          obtain ⟨p, hp⟩ : ∃ p, formedB kd (.mk kd' oc' f' t' u' lo' hi' b' op' ks') = p := ⟨_, rfl⟩
          rw [hp] at HAU HD
          clear hp
          go_upto_region 6 with fail
          clear q9
          refine wp_region_held_drew (S := fun V => Below (w.heap.size + 1) W0 V) (by kernel_rfl) HB.out.drew (fun hSd0 => ?_)
          refine' wpAnyH_take (i := 0) (v := _) (by simp only [List.getElem?_toArray, List.getElem?_cons_zero]; rfl) (by kernel_rfl) (by kernel_rfl) (by kernel_rfl) (by exact fun _ _ _ h => h) (Or.inl ⟨by rfl, ?hyd0⟩) hSd0 ?restd0
          case hyd0 => intro V hSw; clear hSw; go_simp; try with_reducible rfl
          try simp only [Act.put, List.setIfInBounds_toArray, List.set_cons_zero, List.set_cons_succ]
          refine' wpAnyH_take (i := 1) (v := _) (by simp only [List.getElem?_toArray, List.getElem?_cons_succ, List.getElem?_cons_zero]; rfl) (by kernel_rfl) (by kernel_rfl) (by kernel_rfl) (by exact fun _ _ _ h => h) (Or.inl ⟨by rfl, ?hyd1⟩) hSd0 ?restd1
          case hyd1 => intro V hSw; have fq := (HQB.out.below hSw (by omega)).cell 9; clear hSw; go_simp; try with_reducible rfl
          try simp only [Act.put, List.setIfInBounds_toArray, List.set_cons_zero, List.set_cons_succ]
          refine' wpAnyH_take (i := 2) (v := _) (by simp only [List.getElem?_toArray, List.getElem?_cons_succ, List.getElem?_cons_zero]; rfl) (by kernel_rfl) (by kernel_rfl) (by kernel_rfl) (by exact fun _ _ _ h => h) (Or.inl ⟨by rfl, ?hyd2⟩) hSd0 ?restd2
          case hyd2 => intro V hSw; clear hSw; go_simp; try with_reducible rfl
          try simp only [Act.put, List.setIfInBounds_toArray, List.set_cons_zero, List.set_cons_succ]
          refine' wpAnyH_take (i := 3) (v := _) (by simp only [List.getElem?_toArray, List.getElem?_cons_succ, List.getElem?_cons_zero]; rfl) (by kernel_rfl) (by kernel_rfl) (by kernel_rfl) (by exact fun _ _ _ h => h) (Or.inl ⟨by rfl, ?hyd3⟩) hSd0 ?restd3
          case hyd3 => intro V hSw; clear hSw; go_simp; try with_reducible rfl
          try simp only [Act.put, List.setIfInBounds_toArray, List.set_cons_zero, List.set_cons_succ]
          refine' wpAnyH_take (i := 4) (v := _) (by simp only [List.getElem?_toArray, List.getElem?_cons_succ, List.getElem?_cons_zero]; rfl) (by kernel_rfl) (by kernel_rfl) (by kernel_rfl) (by exact fun _ _ _ h => h) (Or.inl ⟨by rfl, ?hyd4⟩) hSd0 ?restd4
          case hyd4 => intro V hSw; obtain ⟨a0, a1, a2, a3, a4, a5, a6, a7, a8, a9⟩ := ten (HCU.out V (HWW.out.trans (hSw.mono (by omega)))); clear hSw; go_simp; try with_reducible rfl
          try simp only [Act.put, List.setIfInBounds_toArray, List.set_cons_zero, List.set_cons_succ]
          refine' wpAnyH_take (i := 5) (v := _) (by simp only [List.getElem?_toArray, List.getElem?_cons_succ, List.getElem?_cons_zero]; rfl) (by kernel_rfl) (by kernel_rfl) (by kernel_rfl) (by exact fun _ _ _ h => h) (Or.inl ⟨by rfl, ?hyd5⟩) hSd0 ?restd5
          case hyd5 => intro V hSw; clear hSw; go_simp; try with_reducible rfl
          try simp only [Act.put, List.setIfInBounds_toArray, List.set_cons_zero, List.set_cons_succ]
          refine' wpAnyH_take (i := 6) (v := _) (by simp only [List.getElem?_toArray, List.getElem?_cons_succ, List.getElem?_cons_zero]; rfl) (by kernel_rfl) (by kernel_rfl) (by kernel_rfl) (by exact fun _ _ _ h => h) (Or.inl ⟨by rfl, ?hyd6⟩) hSd0 ?restd6
          case hyd6 => intro V hSw; have fq := (HQB.out.below hSw (by omega)).cell 0; clear hSw; go_simp; try with_reducible rfl
          try simp only [Act.put, List.setIfInBounds_toArray, List.set_cons_zero, List.set_cons_succ]
          refine wpAnyH_ready (rs := [7]) (by kernel_rfl) (by simp) ?_
          refine' AllReadyH.cons (by simp only [List.getElem?_toArray, List.getElem?_cons_succ, List.getElem?_cons_zero]; rfl) (fun KC hK => ?_) AllReadyH.nil
          go_simp
          refine (HAU.out _ (HWW.out.trans (hSd0.mono (by omega)))).mono ?_
          rintro e w2 ⟨rfl, hb⟩
          have hs2 : Below (w.heap.size + 1) W0 w2 := hSd0.trans (hb.mono (by have := hSd0.size; have := HZ0.out; omega))
          have HB2 := Lib.hid hs2
          clear hb
          go_simp
          refine hK.out _ _ hs2 (fun hSd1 => ?_)
          clear hK hs2
          try simp only [Act.put, List.setIfInBounds_toArray, List.set_cons_zero, List.set_cons_succ]
          refine' wpAnyH_take (i := 8) (v := _) (by simp only [List.getElem?_toArray, List.getElem?_cons_succ, List.getElem?_cons_zero]; rfl) (by kernel_rfl) (by kernel_rfl) (by kernel_rfl) (by exact fun _ _ _ h => h) (Or.inl ⟨by rfl, ?hyd8⟩) hSd1 ?restd8
          case hyd8 => intro V hSw; clear hSw; go_simp; try with_reducible rfl
          try simp only [Act.put, List.setIfInBounds_toArray, List.set_cons_zero, List.set_cons_succ]
          refine wpAnyH_done (by kernel_rfl) ?_ _
          clear hSd0 hSd1
          cases p with
          | false =>
            have HR : Hid (r = false) := Lib.hid (by rw [← HE.out, HD.out]; rfl)
            go_wp2_with fail
            go_ret
            exact ⟨by rw [HR.out]; try rfl, HWW.out.trans (HB2.out.mono (by omega))⟩
          | true =>
            have HE2 : Hid (formedL kd (ks.drop (k + 1)) = r) := Lib.hid (by rw [← HE.out, HD.out]; rfl)
            go_wp2_with fail
            go_roundw
            case rel => exact ⟨k + 1, by omega, by go_num, HE2, HB2⟩
            case measure => simp [intOf]; omega
        · obtain rfl : k = ks.length := by omega
          have HR : Hid (r = true) := Lib.hid (by rw [← HE.out, List.drop_length]; rfl)
          go_wp2_with fail
          go_ret
          exact ⟨by rw [HR.out]; try rfl, HBw.out⟩
end Go.Proofs.YtinmiekbhoemjaaDoor.Qry
