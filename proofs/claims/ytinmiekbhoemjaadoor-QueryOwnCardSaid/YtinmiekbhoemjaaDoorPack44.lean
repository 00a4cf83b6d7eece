/- Contract: query.Depth. A kid more is written: the step of query.write's loop. -/
import Derived.Test.YtinmiekbhoemjaaDoorPack29
import Derived.Test.YtinmiekbhoemjaaDoorPack7
import Derived.Test.YtinmiekbhoemjaaDoorPack14
import Derived.LoopTactic
import Derived.Test.YtinmiekbhoemjaaDoorQryClos11
section
set_option linter.unusedVariables false
namespace Go.Proofs.YtinmiekbhoemjaaDoor.Qry
open Go.RowKit Words Tree QryP Kit Sch

/-- A number is answered. -/
def IntQ (n : Int) (w : World) (e : Ending) (w' : World) : Prop := e = .returned (.int .i64 n) ∧ Below w.heap.size w w'
theorem depthL_le {ks : List QT} {k : QT} (h : k ∈ ks) : depthF k ≤ depthL ks := by
  induction ks with
  | nil => cases h
  | cons a l ih =>
    rw [depthL]
    rcases List.mem_cons.1 h with rfl | h
    · omega
    · have := ih h; omega
theorem atL_ltw {w W : World} {q : QT} {us : List Value} (h : T.AtL bare w (fun g => g < w.heap.size) (cells q) us) (hb : Below w.heap.size w W) : T.AtL bare W (fun g => g < W.heap.size) (cells q) us :=
  AtL.below h hb (fun g hg => Nat.lt_of_lt_of_le hg hb.size)
theorem at_sl {sent : Nat → List (List Value)} {w : World} {S : Nat → Prop} {s n : Nat} {xs : List T} {v : Value} (h : T.At sent w S (.arr s n xs) v) : ∃ A cap, v = .slice A n cap := by
  simp only [T.At] at h
  obtain ⟨A, cap, _, hv, _⟩ := h
  exact ⟨A, cap, hv⟩
set_option maxRecDepth 100000 in
set_option maxHeartbeats 4000000 in
theorem depth_any : ∀ (n : Nat) (q : QT) (vs : List Value) (w : World), q.sz ≤ n → T.AtL bare w (fun g => g < w.heap.size) (cells q) vs → depthF q ≤ 1000000000 →
    Calls Tryd.prog 11 #[.agg vs.toArray] w (IntQ (depthF q) w)
  | n, .mk kd oc f t u lo hi b op ks, vs, w, hn, ha, hd => by
    have IH := Lib.hid (fun (k : QT) (hk : k ∈ ks) (us : List Value) (W : World) (hu : T.AtL bare W (fun g => g < W.heap.size) (cells k) us) => depth_any (n - 1) k us W (by have := QT.sz_kid (kd := kd) (oc := oc) (f := f) (t := t) (u := u) (lo := lo) (hi := hi) (b := b) (op := op) hk; omega) hu (by have := depthL_le hk; rw [depthF] at hd; omega))
    have hn1 : 1 ≤ n := by have := QT.sz_pos (.mk kd oc f t u lo hi b op ks); omega
    obtain ⟨vl, vh, vk, rfl, hl, hh, hk⟩ := at_cells ha
    obtain ⟨A1, c1, rfl, _⟩ := at_ints hl
    obtain ⟨A2, c2, rfl, _⟩ := at_ints hh
    obtain ⟨A, cA, rfl, hcA, hmA, hel⟩ := at_kids hk
    have EL := Lib.hid hel
    have hdl : depthL ks ≤ 999999999 := by rw [depthF] at hd; omega
    have HDF : Hid (depthF (.mk kd oc f t u lo hi b op ks) = depthL ks + 1) := Lib.hid (by rw [depthF])
    have hkm : ks.length ≤ 9223372036854775807 := by unfold maxLen at hmA; omega
    clear ha hl hh hk hel hd hn hn1
    go_enter Tryd.func11, Tryd.ntmps11
    go_wp2_with fail
    go_loopw [3, 9] (fun d i wr => ∃ k : Nat, k ≤ ks.length ∧ i = .int .i64 k ∧ d = .int .i64 (depthL (ks.take k)) ∧ Hid (Below w.heap.size w wr)) (fun _ i _ => ks.length - (intOf i).toNat)
    case atStart => exact ⟨0, by omega, rfl, rfl, Lib.hid ((Below.refl _ w).alloc (Nat.le_refl _) _)⟩
    case round =>
      obtain ⟨k, hk, rfl, rfl, HB⟩ := hrel
      by_cases hlt : k < ks.length
      · have hlt2 : (k : Int) < (ks.length : Int) := by omega
        obtain ⟨ad, us, rfl, hba, au, lu, cu⟩ := EL.out k hlt
        replace cu := cu.keep (w' := wr) (fun p hp => HB.out.cell (by rw [hp, block_of_add]; exact hba))
        have HAU := Lib.hid (fun (W : World) (hW : Below w.heap.size w W) => IH.out ks[k] (List.getElem_mem _) us W (atL_ltw au hW))
        have HDK : Hid (depthL (ks.take (k + 1)) = max (depthL (ks.take k)) (depthF ks[k])) := Lib.hid (by rw [List.take_succ_eq_append_getElem hlt, depthL_snoc])
        have hle : depthF ks[k] ≤ 999999999 := Nat.le_trans (depthL_le (List.getElem_mem _)) hdl
        generalize hq : ks[k] = q at *
        obtain ⟨kd', oc', f', t', u', lo', hi', b', op', ks'⟩ := q
        obtain ⟨vl, vh, vk, rfl, hl, hh, hkk⟩ := at_cells au
        obtain ⟨B1, d1, rfl, _⟩ := at_ints hl
        obtain ⟨B2, d2, rfl, _⟩ := at_ints hh
        obtain ⟨B3, d3, rfl⟩ := at_sl hkk
        obtain ⟨a0, a1, a2, a3, a4, a5, a6, a7, a8, a9⟩ := ten cu
        clear hq au hl hh hkk cu lu
        go_wp2_with fail
        refine (HAU.out _ (HB.out.alloc HB.out.size _)).mono ?_
        rintro e w2 ⟨rfl, hb⟩
        have HB2 := Lib.hid ((HB.out.alloc HB.out.size _).trans (hb.mono (HB.out.alloc HB.out.size _).size))
        clear hb a0 a1 a2 a3 a4 a5 a6 a7 a8 a9
        generalize depthF (.mk kd' oc' f' t' u' lo' hi' b' op' ks') = d2 at *
        generalize depthL (ks.take k) = d1 at *
        go_wp2_with fail
        go_roundw
        case rel => exact ⟨k + 1, by omega, by go_num, by rw [HDK.out]; congr 1; omega, HB2⟩
        case measure => simp [intOf]; omega
      · obtain rfl : k = ks.length := by omega
        rw [List.take_length]
        go_wp2_with fail
        go_ret
        rw [HDF.out]
        exact ⟨by congr 2, HB.out⟩
end Go.Proofs.YtinmiekbhoemjaaDoor.Qry
end
section
set_option linter.unusedVariables false
namespace Go.Proofs.YtinmiekbhoemjaaDoor.Qry
open Go.RowKit Words Tree QryP Kit

section
variable {B b T Q P : Nat} {kd oc : Int} {f t u : ByteArray} {lo hi : List Int} {bo op : Int} {n : Nat} {L Hh K : Option Addr} {cl ch ck : Nat} {l0 : List UInt8} {w0 w : World} {ps : List (List UInt8)}
theorem ws_alloc (h : WS B b T Q P kd oc f t u lo hi bo op n L Hh K cl ch ck l0 w0 ps w) (o : Obj) : WS B b T Q P kd oc f t u lo hi bo op n L Hh K cl ch ck l0 w0 ps (w.alloc o) := by
  have hB : B ≤ w.heap.size := by have := h.buf.ge; have := h.buf.size; omega
  have hw : Wr B (fun g => g = b) w (w.alloc o) := (Wr.refl _ _ _).alloc hB o
  exact ⟨h.caps.wr hw h.caps.tb h.caps.qb, h.buf.keep ((Below.refl _ _).alloc (Nat.le_refl _) _), h.cnt.alloc o, h.wr.trans hw, h.pb, h.tp, h.qp, h.new, h.bp⟩
set_option maxHeartbeats 1000000 in
theorem ws_kid (h : WS B b T Q P kd oc f t u lo hi bo op n L Hh K cl ch ck l0 w0 ps w) {kd' oc' : Int} {f' t' u' : ByteArray} {lo' hi' : List Int} {bo' op' : Int} {ks' : List QT} {L' H' K' : Option Addr} {nl cl' nh ch' nk ck' : Nat}
    (hau : Tree.T.AtL bare w0 (fun g => g < B) (cells (.mk kd' oc' f' t' u' lo' hi' bo' op' ks')) [.int .i64 kd', .int .i64 oc', .string f', .string t', .string u', .slice L' nl cl', .slice H' nh ch', .int .i64 bo', .int .i64 op', .slice K' nk ck'])
    (ho : oc' = 0 ∨ oc' = 1 ∨ oc' = 2 ∨ oc' = 3 ∨ oc' = 4)
    (hd : ∀ (l : List UInt8) (vs : List Value) (W : World), Below B w0 W → Tree.T.AtL bare W (fun g => g < B) (cells (.mk kd' oc' f' t' u' lo' hi' bo' op' ks')) vs → Buf B b l W → l.length + (writeF numT (.mk kd' oc' f' t' u' lo' hi' bo' op' ks')).length + 100 ≤ maxW → Calls Tryd.prog 26 #[.pointer (some ⟨b, 0, none⟩), .agg vs.toArray] W (PutU B b l (writeF numT (.mk kd' oc' f' t' u' lo' hi' bo' op' ks')) W))
    (hn : ps.length ≤ 1000000000000000000) (hm : l0.length + (joinF [44, 32] (ps ++ [markF oc' ++ writeF numT (.mk kd' oc' f' t' u' lo' hi' bo' op' ks')])).length + 101 ≤ maxW) :
    Calls Tryd.prog 42 #[.func (.func 56) #[] #[.pointer (some ⟨w.heap.size, 0, none⟩), .pointer (some ⟨T, 0, none⟩)], .pointer (some ⟨P, 0, none⟩), .pointer (some ⟨T, 0, none⟩)]
      (w.alloc (.cells #[.int .i64 kd', .int .i64 oc', .string f', .string t', .string u', .slice L' nl cl', .slice H' nh ch', .int .i64 bo', .int .i64 op', .slice K' nk ck'] 25))
      (fun e w' => e = .returned (.tuple #[]) ∧ WS B b T Q P kd oc f t u lo hi bo op n L Hh K cl ch ck l0 w0 (ps ++ [markF oc' ++ writeF numT (.mk kd' oc' f' t' u' lo' hi' bo' op' ks')]) w') := by
  have hbs := h.buf.size
  have hps := h.cnt.lt
  have hB : B ≤ w.heap.size := by have := h.buf.ge; omega
  refine ws_part (ws_alloc h _) 56 _ (enters_of Tryd.func56 (by kernel_rfl) rfl) (by omega) hn (fun W hC hW hb hl => ?_)
  have hKW := hW.blk (Blk.new w 25 #[.int .i64 kd', .int .i64 oc', .string f', .string t', .string u', .slice L' nl cl', .slice H' nh ch', .int .i64 bo', .int .i64 op', .slice K' nk ck']) (by omega) (by decide)
  have hbel : Below B w0 W := (h.wr.below.trans ((Below.refl B w).alloc hB _)).trans hW.below
  have hI : ∀ (W' : World) (l' : List UInt8), Wr B (fun g => g = b) W W' → Buf B b l' W' → l'.length + (writeF numT (.mk kd' oc' f' t' u' lo' hi' bo' op' ks')).length + 100 ≤ maxW →
      Calls Tryd.prog 26 #[.pointer (some ⟨b, 0, none⟩), .agg #[.int .i64 kd', .int .i64 oc', .string f', .string t', .string u', .slice L' nl cl', .slice H' nh ch', .int .i64 bo', .int .i64 op', .slice K' nk ck']] W' (PutU B b l' (writeF numT (.mk kd' oc' f' t' u' lo' hi' bo' op' ks')) W') := fun W' l' hw hb' hlen =>
    hd l' _ W' (hbel.trans hw.below) (AtL.below hau (hbel.trans hw.below) (fun g hg => hg)) hb' hlen
  have hlm : ∀ o : Int, (markF o).length ≤ 1 := fun o => by unfold markF; split <;> simp
  have hl2 := hl
  simp only [List.length_append] at hl2
  rcases ho with rfl | rfl | rfl | rfl | rfl
  · exact kid_0 hC.tB hKW h.caps.tb (by omega) hb (by simp only [List.length_append]; omega) (fun W' hw hb' => hI W' _ hw hb' (by simp only [List.length_append]; omega))
  · exact kid_1 hC.tB hKW h.caps.tb (by omega) hb (by simp only [List.length_append]; omega) (fun W' hw hb' => hI W' _ hw hb' (by have : (markF 1).length = 1 := rfl; simp only [List.length_append, List.length_cons, List.length_nil]; omega))
  · exact kid_2 hC.tB hKW h.caps.tb (by omega) hb (by simp only [List.length_append]; omega) (fun W' hw hb' => hI W' _ hw hb' (by have : (markF 2).length = 1 := rfl; simp only [List.length_append, List.length_cons, List.length_nil]; omega))
  · exact kid_3 hC.tB hKW h.caps.tb (by omega) hb (by simp only [List.length_append]; omega) (fun W' hw hb' => hI W' _ hw hb' (by have : (markF 3).length = 1 := rfl; simp only [List.length_append, List.length_cons, List.length_nil]; omega))
  · exact kid_4 hC.tB hKW h.caps.tb (by omega) hb (by simp only [List.length_append]; omega) (fun W' hw hb' => hI W' _ hw hb' (by have : (markF 4).length = 1 := rfl; simp only [List.length_append, List.length_cons, List.length_nil]; omega))
end
end Go.Proofs.YtinmiekbhoemjaaDoor.Qry
end
