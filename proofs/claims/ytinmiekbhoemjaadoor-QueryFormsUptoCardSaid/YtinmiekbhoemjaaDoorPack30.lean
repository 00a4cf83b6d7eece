/- Small laws for queries compared part by part. Contract: query.Depth. -/
import Derived.Test.YtinmiekbhoemjaaDoorQryLent
import Derived.Test.YtinmiekbhoemjaaDoorPack11
import Derived.Test.YtinmiekbhoemjaaDoorSchName
import Derived.LoopTactic
section
set_option linter.unusedVariables false
namespace Go.Proofs.YtinmiekbhoemjaaDoor.Qry
open Go.RowKit Words Tree QryP Kit Owned

theorem bne_int {a b : Int} (h : ¬ a = b) : (a != b) = true ∧ (a == b) = false := ⟨by rw [bne_iff_ne]; exact h, by rw [beq_eq_false_iff_ne]; exact h⟩
theorem bne_str {a b : ByteArray} (h : ¬ a = b) : (a.toList != b.toList) = true ∧ (a.toList == b.toList) = false := by
  have : ¬ a.toList = b.toList := fun e => by
    rw [ByteArray.toList_eq, ByteArray.toList_eq] at e
    exact h (ByteArray.ext (Array.toList_inj.1 e))
  exact ⟨by rw [bne_iff_ne]; exact this, by rw [beq_eq_false_iff_ne]; exact this⟩
theorem below2 {w : World} (o1 o2 : Obj) : Below w.heap.size w ((w.alloc o1).alloc o2) := ((Below.refl _ _).alloc (Nat.le_refl _) _).alloc (by simp) _
theorem blk_a (w : World) (cs ds : Array Value) (t t' : TypeId) : Blk ((w.alloc (.cells cs t)).alloc (.cells ds t')) w.heap.size t cs := (Blk.new w t cs).alloc _
theorem blk_b (w : World) (cs ds : Array Value) (t t' : TypeId) : Blk ((w.alloc (.cells cs t)).alloc (.cells ds t')) (w.heap.size + 1) t' ds := by
  have := Blk.new (w.alloc (.cells cs t)) t' ds
  rwa [World.size_alloc] at this
theorem blk10 {w : World} {g : Nat} {t : TypeId} {v0 v1 v2 v3 v4 v5 v6 v7 v8 v9 : Value} (h : Blk w g t #[v0, v1, v2, v3, v4, v5, v6, v7, v8, v9]) :
    w.cell? ⟨g, 0, none⟩ = some v0 ∧ w.cell? ⟨g, 1, none⟩ = some v1 ∧ w.cell? ⟨g, 2, none⟩ = some v2 ∧ w.cell? ⟨g, 3, none⟩ = some v3 ∧ w.cell? ⟨g, 4, none⟩ = some v4 ∧ w.cell? ⟨g, 5, none⟩ = some v5 ∧ w.cell? ⟨g, 6, none⟩ = some v6 ∧ w.cell? ⟨g, 7, none⟩ = some v7 ∧ w.cell? ⟨g, 8, none⟩ = some v8 ∧ w.cell? ⟨g, 9, none⟩ = some v9 :=
  ⟨h.cell 0, h.cell 1, h.cell 2, h.cell 3, h.cell 4, h.cell 5, h.cell 6, h.cell 7, h.cell 8, h.cell 9⟩
/-- Ten cells, as the walk spells them. -/
theorem ten {w : World} {ad : Addr} {v0 v1 v2 v3 v4 v5 v6 v7 v8 v9 : Value} (h : Cells w ad [v0, v1, v2, v3, v4, v5, v6, v7, v8, v9]) :
    w.cell? ad = some v0 ∧ w.cell? ⟨ad.block, ad.off + 1, none⟩ = some v1 ∧ w.cell? ⟨ad.block, ad.off + 2, none⟩ = some v2 ∧ w.cell? ⟨ad.block, ad.off + 3, none⟩ = some v3 ∧ w.cell? ⟨ad.block, ad.off + 4, none⟩ = some v4 ∧
    w.cell? ⟨ad.block, ad.off + 5, none⟩ = some v5 ∧ w.cell? ⟨ad.block, ad.off + 6, none⟩ = some v6 ∧ w.cell? ⟨ad.block, ad.off + 7, none⟩ = some v7 ∧ w.cell? ⟨ad.block, ad.off + 8, none⟩ = some v8 ∧ w.cell? ⟨ad.block, ad.off + 9, none⟩ = some v9 :=
  ⟨h.zero, h.at_ 1 _ rfl (by omega), h.at_ 2 _ rfl (by omega), h.at_ 3 _ rfl (by omega), h.at_ 4 _ rfl (by omega), h.at_ 5 _ rfl (by omega), h.at_ 6 _ rfl (by omega), h.at_ 7 _ rfl (by omega), h.at_ 8 _ rfl (by omega), h.at_ 9 _ rfl (by omega)⟩
theorem take_all {α : Type} {l m : List α} (h : l.take l.length = m.take l.length) (hl : l.length = m.length) : l = m := by
  rw [List.take_of_length_le (Nat.le_refl _), hl, List.take_of_length_le (Nat.le_refl _)] at h
  exact h
theorem ne_kid {ks js : List QT} {k : Nat} (h1 : k < ks.length) (h2 : k < js.length) (h : ¬ ks[k] = js[k]) : ¬ ks = js := fun e => by subst e; exact h rfl
theorem bool_cases {b : Bool} {p : Prop} (h : b = true ↔ p) : (p ∧ b = true) ∨ (¬ p ∧ b = false) := by cases b <;> simp_all
end Go.Proofs.YtinmiekbhoemjaaDoor.Qry
end
section
set_option linter.unusedVariables false
namespace Go.Proofs.YtinmiekbhoemjaaDoor.Qry
open Go.RowKit Words Tree QryP Kit Sch

/-- A number is answered. -/
def IntQ (n : Int) (w : World) (e : Ending) (w' : World) : Prop := e = .returned (.int .i64 n) ∧ Below w.heap.size w w'
theorem depthL_le {ks : List QT} {k : QT} (h : k ∈ ks) : depthF k ≤ depthL ks := by
  induction ks with
  | nil => cases h
  | cons a l ih =>
    rw [depthL]
    rcases List.mem_cons.1 h with rfl | h
    · omega
    · have := ih h; omega
theorem atL_ltw {w W : World} {q : QT} {us : List Value} (h : T.AtL bare w (fun g => g < w.heap.size) (cells q) us) (hb : Below w.heap.size w W) : T.AtL bare W (fun g => g < W.heap.size) (cells q) us :=
  AtL.below h hb (fun g hg => Nat.lt_of_lt_of_le hg hb.size)
theorem at_sl {sent : Nat → List (List Value)} {w : World} {S : Nat → Prop} {s n : Nat} {xs : List T} {v : Value} (h : T.At sent w S (.arr s n xs) v) : ∃ A cap, v = .slice A n cap := by
  simp only [T.At] at h
  obtain ⟨A, cap, _, hv, _⟩ := h
  exact ⟨A, cap, hv⟩
set_option maxRecDepth 100000 in
set_option maxHeartbeats 4000000 in
theorem depth_any : ∀ (n : Nat) (q : QT) (vs : List Value) (w : World), q.sz ≤ n → T.AtL bare w (fun g => g < w.heap.size) (cells q) vs → depthF q ≤ 1000000000 →
    Calls Tryd.prog 11 #[.agg vs.toArray] w (IntQ (depthF q) w)
  | n, .mk kd oc f t u lo hi b op ks, vs, w, hn, ha, hd => by
    have IH := Lib.hid (fun (k : QT) (hk : k ∈ ks) (us : List Value) (W : World) (hu : T.AtL bare W (fun g => g < W.heap.size) (cells k) us) => depth_any (n - 1) k us W (by have := QT.sz_kid (kd := kd) (oc := oc) (f := f) (t := t) (u := u) (lo := lo) (hi := hi) (b := b) (op := op) hk; omega) hu (by have := depthL_le hk; rw [depthF] at hd; omega))
    have hn1 : 1 ≤ n := by have := QT.sz_pos (.mk kd oc f t u lo hi b op ks); omega
    obtain ⟨vl, vh, vk, rfl, hl, hh, hk⟩ := at_cells ha
    obtain ⟨A1, c1, rfl, _⟩ := at_ints hl
    obtain ⟨A2, c2, rfl, _⟩ := at_ints hh
    obtain ⟨A, cA, rfl, hcA, hmA, hel⟩ := at_kids hk
    have EL := Lib.hid hel
    have hdl : depthL ks ≤ 999999999 := by rw [depthF] at hd; omega
    have HDF : Hid (depthF (.mk kd oc f t u lo hi b op ks) = depthL ks + 1) := Lib.hid (by rw [depthF])
    have hkm : ks.length ≤ 9223372036854775807 := by unfold maxLen at hmA; omega
    clear ha hl hh hk hel hd hn hn1
    go_enter Tryd.func11, Tryd.ntmps11
    go_wp2_with fail
    go_loopw [3, 9] (fun d i wr => ∃ k : Nat, k ≤ ks.length ∧ i = .int .i64 k ∧ d = .int .i64 (depthL (ks.take k)) ∧ Hid (Below w.heap.size w wr)) (fun _ i _ => ks.length - (intOf i).toNat)
    case atStart => exact ⟨0, by omega, rfl, rfl, Lib.hid ((Below.refl _ w).alloc (Nat.le_refl _) _)⟩
    case round =>
      obtain ⟨k, hk, rfl, rfl, HB⟩ := hrel
      by_cases hlt : k < ks.length
      · have hlt2 : (k : Int) < (ks.length : Int) := by omega
        obtain ⟨ad, us, rfl, hba, au, lu, cu⟩ := EL.out k hlt
        replace cu := cu.keep (w' := wr) (fun p hp => HB.out.cell (by rw [hp, block_of_add]; exact hba))
        have HAU := Lib.hid (fun (W : World) (hW : Below w.heap.size w W) => IH.out ks[k] (List.getElem_mem _) us W (atL_ltw au hW))
        have HDK : Hid (depthL (ks.take (k + 1)) = max (depthL (ks.take k)) (depthF ks[k])) := Lib.hid (by rw [List.take_succ_eq_append_getElem hlt, depthL_snoc])
        have hle : depthF ks[k] ≤ 999999999 := Nat.le_trans (depthL_le (List.getElem_mem _)) hdl
        generalize hq : ks[k] = q at *
        obtain ⟨kd', oc', f', t', u', lo', hi', b', op', ks'⟩ := q
        obtain ⟨vl, vh, vk, rfl, hl, hh, hkk⟩ := at_cells au
        obtain ⟨B1, d1, rfl, _⟩ := at_ints hl
        obtain ⟨B2, d2, rfl, _⟩ := at_ints hh
        obtain ⟨B3, d3, rfl⟩ := at_sl hkk
        obtain ⟨a0, a1, a2, a3, a4, a5, a6, a7, a8, a9⟩ := ten cu
        clear hq au hl hh hkk cu lu
        go_wp2_with fail
        refine (HAU.out _ (HB.out.alloc HB.out.size _)).mono ?_
        rintro e w2 ⟨rfl, hb⟩
        have HB2 := Lib.hid ((HB.out.alloc HB.out.size _).trans (hb.mono (HB.out.alloc HB.out.size _).size))
        clear hb a0 a1 a2 a3 a4 a5 a6 a7 a8 a9
        generalize depthF (.mk kd' oc' f' t' u' lo' hi' b' op' ks') = d2 at *
        generalize depthL (ks.take k) = d1 at *
        go_wp2_with fail
        go_roundw
        case rel => exact ⟨k + 1, by omega, by go_num, by rw [HDK.out]; congr 1; omega, HB2⟩
        case measure => simp [intOf]; omega
      · obtain rfl : k = ks.length := by omega
        rw [List.take_length]
        go_wp2_with fail
        go_ret
        rw [HDF.out]
        exact ⟨by congr 2, HB.out⟩
end Go.Proofs.YtinmiekbhoemjaaDoor.Qry
end
