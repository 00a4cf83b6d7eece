/- Contract: query.Formed. -/
import Derived.Test.YtinmiekbhoemjaaDoorPack44
import Derived.Test.YtinmiekbhoemjaaDoorQryOwnA
import Derived.Laws.EntriesVeiled
set_option linter.unusedVariables false
namespace Go.Proofs.YtinmiekbhoemjaaDoor.Qry
open Go.RowKit Words Tree QryP Kit Sch

/-- The first that is not: there is one just if b. -/
def IdxQ (b : Bool) (w : World) (e : Ending) (w' : World) : Prop := ∃ z : Int, e = .returned (.int .i64 z) ∧ decide (0 ≤ z) = b ∧ -9223372036854775808 ≤ z ∧ z ≤ 9223372036854775807 ∧ Below w.heap.size w w'
set_option maxRecDepth 100000 in
set_option maxHeartbeats 4000000 in
/-- The kids, one by one. G: the closure's captured block of the function, B: the part's own. -/
theorem index_kids (kd : Int) (ks : List QT) (A : Option Addr) (cA : Nat) (G B : Nat) (w : World) (hk : T.At bare w (fun g => g < w.heap.size) (.arr 10 ks.length (cellsL ks)) (.slice A ks.length cA))
    (HK : ∀ k ∈ ks, ∀ us W, Below w.heap.size w W → T.AtL bare W (fun g => g < W.heap.size) (cells k) us → Calls Tryd.prog 24 #[.agg us.toArray, .pointer (some ⟨G, 0, none⟩), .pointer (some ⟨B, 0, none⟩)] W (AnsB (!formedB kd k) W)) :
    Calls Tryd.prog 38 #[.slice A ks.length cA, .func (.func 24) #[] #[.pointer (some ⟨G, 0, none⟩), .pointer (some ⟨B, 0, none⟩)]] w (IdxQ (!formedL kd ks) w) := by
  obtain ⟨_, _, he, hcA, hmA, hel⟩ := at_kids hk
  injection he with e1 _ e3
  subst e1 e3
  have EL := Lib.hid hel
  have HK := Lib.hid HK
  have hkm : ks.length ≤ 9223372036854775807 := by unfold maxLen at hmA; omega
  obtain ⟨r, hr⟩ : ∃ r, formedL kd ks = r := ⟨_, rfl⟩
  have H0 : Hid (formedL kd (ks.drop 0) = r) := Lib.hid hr
  rw [hr]
  clear hr hk hel
  go_enter Tryd.func38, Tryd.ntmps38
  go_wp2_with fail
  go_loopw [5, 8] (fun _ i wr => ∃ k : Nat, k ≤ ks.length ∧ i = .int .i64 k ∧ Hid (formedL kd (ks.drop k) = r) ∧ Hid (Below w.heap.size w wr)) (fun _ i _ => ks.length - (intOf i).toNat)
  case atStart => exact ⟨0, by omega, rfl, H0, Lib.hid (Below.refl _ _)⟩
  case round =>
    obtain ⟨k, hk, rfl, HE, HB⟩ := hrel
    by_cases hlt : k < ks.length
    · have hlt2 : (k : Int) < (ks.length : Int) := by omega
      obtain ⟨ad, us, rfl, hba, au, lu, cu⟩ := EL.out k hlt
      replace cu := cu.keep (w' := wr) (fun p hp => HB.out.cell (by rw [hp, block_of_add]; exact hba))
      have HAU := Lib.hid (HK.out ks[k] (List.getElem_mem _) us wr HB.out (atL_ltw au HB.out))
      have HD := Lib.hid (formedL_step (u := kd) hlt)
      generalize hq : ks[k] = q at *
      obtain ⟨kd', oc', f', t', u', lo', hi', b', op', ks'⟩ := q
      obtain ⟨vl, vh, vk, rfl, hl, hh, hkk⟩ := at_cells au
      obtain ⟨B1, d1, rfl, _⟩ := at_ints hl
      obtain ⟨B2, d2, rfl, _⟩ := at_ints hh
      obtain ⟨B3, d3, rfl⟩ := at_sl hkk
      obtain ⟨a0, a1, a2, a3, a4, a5, a6, a7, a8, a9⟩ := ten cu
      clear hq au hl hh hkk cu lu
      obtain ⟨p, hp⟩ : ∃ p, formedB kd (.mk kd' oc' f' t' u' lo' hi' b' op' ks') = p := ⟨_, rfl⟩
      rw [hp] at HAU HD
      clear hp
      go_wp2_with fail
      refine HAU.out.mono ?_
      rintro e w2 ⟨rfl, hb⟩
      have HB2 := Lib.hid (HB.out.trans (hb.mono HB.out.size))
      clear hb a0 a1 a2 a3 a4 a5 a6 a7 a8 a9 HAU
      cases p with
      | false =>
        have HR : Hid (r = false) := Lib.hid (by rw [← HE.out, HD.out]; rfl)
        go_wp2_with fail
        go_ret
        exact ⟨k, rfl, by rw [HR.out]; exact decide_eq_true (by omega), by omega, by omega, HB2.out⟩
      | true =>
        have HE2 : Hid (formedL kd (ks.drop (k + 1)) = r) := Lib.hid (by rw [← HE.out, HD.out]; rfl)
        go_wp2_with fail
        go_roundw
        case rel => exact ⟨k + 1, by omega, by go_num, HE2, HB2⟩
        case measure => simp [intOf]; omega
    · obtain rfl : k = ks.length := by omega
      have HR : Hid (r = true) := Lib.hid (by rw [← HE.out, List.drop_length]; rfl)
      go_wp2_with fail
      go_ret
      exact ⟨-1, rfl, by rw [HR.out]; rfl, by omega, by omega, HB.out⟩
set_option maxRecDepth 100000 in
set_option maxHeartbeats 4000000 in
theorem contains_kids (kd : Int) (ks : List QT) (A : Option Addr) (cA : Nat) (G B : Nat) (w : World) (hk : T.At bare w (fun g => g < w.heap.size) (.arr 10 ks.length (cellsL ks)) (.slice A ks.length cA))
    (HK : ∀ k ∈ ks, ∀ us W, Below w.heap.size w W → T.AtL bare W (fun g => g < W.heap.size) (cells k) us → Calls Tryd.prog 24 #[.agg us.toArray, .pointer (some ⟨G, 0, none⟩), .pointer (some ⟨B, 0, none⟩)] W (AnsB (!formedB kd k) W)) :
    Calls Tryd.prog 23 #[.slice A ks.length cA, .func (.func 24) #[] #[.pointer (some ⟨G, 0, none⟩), .pointer (some ⟨B, 0, none⟩)]] w (AnsB (!formedL kd ks) w) := by
  have HI := Lib.hid (index_kids kd ks A cA G B w hk HK)
  clear hk HK
  generalize (!formedL kd ks) = r at *
  go_enter Tryd.func23, Tryd.ntmps23
  go_wp2_with fail
  refine HI.out.mono ?_
  rintro e w2 ⟨z, rfl, hz, hz1, hz2, hb⟩
  have HZ := Lib.hid hz
  have HB := Lib.hid hb
  clear hz hb
  go_wp2_with fail
  go_ret
  exact ⟨by show Ending.returned (.bool (decide (0 ≤ z))) = _; rw [HZ.out], HB.out⟩
set_option maxRecDepth 100000 in
set_option maxHeartbeats 4000000 in
/-- The closure of Formed that goes down. -/
theorem down_any : ∀ (n : Nat) (q : QT) (vs : List Value) (under : Int) (G : Nat) (w : World), q.sz ≤ n → Ok q → T.AtL bare w (fun g => g < w.heap.size) (cells q) vs → w.cell? ⟨G, 0, none⟩ = some (.func (.func 21) #[] #[.pointer (some ⟨G, 0, none⟩)]) → G < w.heap.size →
    Calls Tryd.prog 21 #[.agg vs.toArray, .int .i64 under, .pointer (some ⟨G, 0, none⟩)] w (AnsB (formedB under q) w)
  | n, .mk kd oc f t u lo hi b op ks, vs, under, G, w, hn, hok, ha, hG, hGl => by
    have hn1 : 1 ≤ n := by have := QT.sz_pos (.mk kd oc f t u lo hi b op ks); omega
    cases hok with
    | mk hkd hoc hf ht hu hlo hhi hb hop hks hkk =>
    have IH := Lib.hid (fun (k : QT) (hk : k ∈ ks) (us : List Value) (un : Int) (W : World) (hW : Below w.heap.size w W) (hu : T.AtL bare W (fun g => g < W.heap.size) (cells k) us) => down_any (n - 1) k us un G W (by have := QT.sz_kid (kd := kd) (oc := oc) (f := f) (t := t) (u := u) (lo := lo) (hi := hi) (b := b) (op := op) hk; omega) (hkk k hk) hu ((hW.cell (p := ⟨G, 0, none⟩) hGl).trans hG) (Nat.lt_of_lt_of_le hGl hW.size))
    have HG := Lib.hid (fun (W : World) (hW : Below w.heap.size w W) => (hW.cell (p := ⟨G, 0, none⟩) hGl).trans hG)
    obtain ⟨vl, vh, vk, rfl, hl, hh, hk⟩ := at_cells ha
    obtain ⟨A1, c1, rfl, _⟩ := at_ints hl
    obtain ⟨A2, c2, rfl, _⟩ := at_ints hh
    obtain ⟨A, cA, rfl⟩ := at_sl hk
    have HKK := Lib.hid hk
    have HO := Lib.hid (fun W => own_any kd oc f t u lo hi b op ks A1 A2 A c1 c2 cA under W hf)
    have HF := Lib.hid (formedB_eq under (.mk kd oc f t u lo hi b op ks))
    have hmf : ∀ (fn : Fn) (first cap : Array Value) (w : World), (Instr.makeFunc fn first cap).run Tryd.prog w = .ok (.func fn first cap) w := fun _ _ _ _ => rfl
    -- the closure at a kid
    have HC : Hid (∀ W, Below (w.heap.size + 1) (w.alloc (.cells #[.int .i64 kd, .int .i64 oc, .string f, .string t, .string u, .slice A1 lo.length c1, .slice A2 hi.length c2, .int .i64 b, .int .i64 op, .slice A ks.length cA] 25)) W → ∀ k ∈ ks, ∀ us, T.AtL bare W (fun g => g < W.heap.size) (cells k) us →
        Calls Tryd.prog 24 #[.agg us.toArray, .pointer (some ⟨G, 0, none⟩), .pointer (some ⟨w.heap.size, 0, none⟩)] W (AnsB (!formedB kd k) W)) := Lib.hid (by
      intro W hW k hk us hu
      have hwW : Below w.heap.size w W := ((Below.refl _ w).alloc (Nat.le_refl _) _).trans (hW.mono (by omega))
      have cG : W.cell? ⟨G, 0, none⟩ = some (.func (.func 21) #[] #[.pointer (some ⟨G, 0, none⟩)]) := HG.out W hwW
      have cK : W.cell? ⟨w.heap.size, 0, none⟩ = some (.int .i64 kd) := ((Blk.new w _ _).below hW (by simp)).cell 0
      have hne : G ≠ W.heap.size := by have := hwW.size; omega
      have hlG : G < W.heap.size := by have := hwW.size; omega
      have hlK : w.heap.size < W.heap.size := by have := hW.size; simp at this; omega
      have hne2 : w.heap.size ≠ W.heap.size := by have := hW.size; simp at this; omega
      have HI := Lib.hid (IH.out k hk us kd (W.alloc (.cells us.toArray 25)) (hwW.alloc hwW.size _) (atL_ltw hu ((Below.refl _ _).alloc (Nat.le_refl _) _)))
      obtain ⟨kd', oc', f', t', u', lo', hi', b', op', ks'⟩ := k
      obtain ⟨vl, vh, vk, rfl, hl, hh, hkk⟩ := at_cells hu
      obtain ⟨B1, d1, rfl, _⟩ := at_ints hl
      obtain ⟨B2, d2, rfl, _⟩ := at_ints hh
      obtain ⟨B3, d3, rfl⟩ := at_sl hkk
      clear hl hh hkk hu hk hwW
      generalize formedB kd (.mk kd' oc' f' t' u' lo' hi' b' op' ks') = r at *
      go_enter Tryd.func24, Tryd.ntmps24
      go_wp2_with fail
      refine HI.out.mono ?_
      rintro e w2 ⟨rfl, hb⟩
      have HB := Lib.hid (((Below.refl _ W).alloc (Nat.le_refl _) _).trans (hb.mono (by simp)))
      clear hb
      go_wp2_with fail
      go_ret
      exact ⟨rfl, HB.out⟩)
    clear ha hl hh hk hG IH HG hkk hkd hoc ht hu hlo hhi hb hop hks hf
    rw [HF.out]
    obtain ⟨p, hp⟩ : ∃ p, ownB (.mk kd oc f t u lo hi b op ks) under = p := ⟨_, rfl⟩
    rw [hp] at HO ⊢
    show Calls _ _ _ _ (AnsB (p && formedL kd ks) w)
    clear hp
    go_enter Tryd.func21, Tryd.ntmps21
    go_wp2_with fail
    refine (HO.out _).mono ?_
    rintro e w2 ⟨rfl, hb⟩
    have HB := Lib.hid hb
    have HBw := Lib.hid (((Below.refl _ w).alloc (Nat.le_refl _) _).trans (hb.mono (by simp)))
    have q9 : w2.cell? ⟨w.heap.size, 9, none⟩ = some (.slice A ks.length cA) := ((Blk.new w _ _).below hb (by simp)).cell 9
    clear hb
    cases p with
    | false =>
      go_wp2_with fail
      go_ret
      exact ⟨rfl, HBw.out⟩
    | true =>
      have HCK := Lib.hid (contains_kids kd ks A cA G w.heap.size w2 (At.below HKK.out HBw.out (fun g hg => Nat.lt_of_lt_of_le hg HBw.out.size)) (fun k hk us W hW hu => HC.out W (by
        have := HB.out
        simp only [World.size_alloc] at this
        exact this.trans (hW.mono (by have := this.size; simp at this; omega))) k hk us hu))
      generalize formedL kd ks = r at *
      go_wp2_with fail
      refine HCK.out.mono ?_
      rintro e w3 ⟨rfl, hb⟩
      have HB3 := Lib.hid (HBw.out.trans (hb.mono HBw.out.size))
      clear hb q9
      go_wp2_with fail
      go_ret
      exact ⟨by simp, HB3.out⟩
set_option maxRecDepth 100000 in
set_option maxHeartbeats 4000000 in
/-- query.Formed. -/
theorem formed_any (q : QT) (vs : List Value) (w : World) (hok : Ok q) (ha : T.AtL bare w (fun g => g < w.heap.size) (cells q) vs) : Calls Tryd.prog 9 #[.agg vs.toArray] w (AnsB (formedB 0 q) w) := by
  have hmf : ∀ (fn : Fn) (first cap : Array Value) (w : World), (Instr.makeFunc fn first cap).run Tryd.prog w = .ok (.func fn first cap) w := fun _ _ _ _ => rfl
  have hdn : ∀ W, Below w.heap.size w W → W.cell? ⟨w.heap.size + 1, 0, none⟩ = some (.func (.func 21) #[] #[.pointer (some ⟨w.heap.size + 1, 0, none⟩)]) → w.heap.size + 1 < W.heap.size → Calls Tryd.prog 21 #[.agg vs.toArray, .int .i64 0, .pointer (some ⟨w.heap.size + 1, 0, none⟩)] W (AnsB (formedB 0 q) W) :=
    fun W hW h1 h2 => down_any q.sz q vs 0 (w.heap.size + 1) W (Nat.le_refl _) hok (atL_ltw ha hW) h1 h2
  have HD := Lib.hid hdn
  clear hdn
  obtain ⟨kd, oc, f, t, u, lo, hi, b, op, ks⟩ := q
  obtain ⟨vl, vh, vk, rfl, hl, hh, hk⟩ := at_cells ha
  obtain ⟨A1, c1, rfl, _⟩ := at_ints hl
  obtain ⟨A2, c2, rfl, _⟩ := at_ints hh
  obtain ⟨A, cA, rfl⟩ := at_sl hk
  clear ha hl hh hk hok
  generalize formedB 0 (.mk kd oc f t u lo hi b op ks) = r at *
  go_enter Tryd.func9, Tryd.ntmps9
  go_wp2_with fail
  have hb0 : ∀ o1 o2, Below w.heap.size w ((w.alloc o1).alloc o2) := fun o1 o2 => ((Below.refl _ w).alloc (Nat.le_refl _) _).alloc (by simp) _
  refine (HD.out _ (hb0 _ _) ?k1 ?k2).mono ?_
  case k1 => go_simp
  case k2 => simp
  rintro e w2 ⟨rfl, hb⟩
  have HB := Lib.hid ((hb0 _ _).trans (hb.mono (by simp; omega)))
  clear hb hb0
  go_wp2_with fail
  go_ret
  exact ⟨rfl, HB.out⟩
end Go.Proofs.YtinmiekbhoemjaaDoor.Qry
