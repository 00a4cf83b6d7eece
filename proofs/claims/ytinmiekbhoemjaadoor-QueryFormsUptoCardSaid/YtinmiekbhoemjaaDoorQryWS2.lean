/- A kid more is written: the step of query.write's loop. -/
import Derived.Test.YtinmiekbhoemjaaDoorQryClos11
import Derived.Test.YtinmiekbhoemjaaDoorPack30
set_option linter.unusedVariables false
namespace Go.Proofs.YtinmiekbhoemjaaDoor.Qry
open Go.RowKit Words Tree QryP Kit

section
variable {B b T Q P : Nat} {kd oc : Int} {f t u : ByteArray} {lo hi : List Int} {bo op : Int} {n : Nat} {L Hh K : Option Addr} {cl ch ck : Nat} {l0 : List UInt8} {w0 w : World} {ps : List (List UInt8)}
theorem ws_alloc (h : WS B b T Q P kd oc f t u lo hi bo op n L Hh K cl ch ck l0 w0 ps w) (o : Obj) : WS B b T Q P kd oc f t u lo hi bo op n L Hh K cl ch ck l0 w0 ps (w.alloc o) := by
  have hB : B ≤ w.heap.size := by have := h.buf.ge; have := h.buf.size; omega
  have hw : Wr B (fun g => g = b) w (w.alloc o) := (Wr.refl _ _ _).alloc hB o
  exact ⟨h.caps.wr hw h.caps.tb h.caps.qb, h.buf.keep ((Below.refl _ _).alloc (Nat.le_refl _) _), h.cnt.alloc o, h.wr.trans hw, h.pb, h.tp, h.qp, h.new, h.bp⟩
set_option maxHeartbeats 1000000 in
theorem ws_kid (h : WS B b T Q P kd oc f t u lo hi bo op n L Hh K cl ch ck l0 w0 ps w) {kd' oc' : Int} {f' t' u' : ByteArray} {lo' hi' : List Int} {bo' op' : Int} {ks' : List QT} {L' H' K' : Option Addr} {nl cl' nh ch' nk ck' : Nat}
    (hau : Tree.T.AtL bare w0 (fun g => g < B) (cells (.mk kd' oc' f' t' u' lo' hi' bo' op' ks')) [.int .i64 kd', .int .i64 oc', .string f', .string t', .string u', .slice L' nl cl', .slice H' nh ch', .int .i64 bo', .int .i64 op', .slice K' nk ck'])
    (ho : oc' = 0 ∨ oc' = 1 ∨ oc' = 2 ∨ oc' = 3 ∨ oc' = 4)
    (hd : ∀ (l : List UInt8) (vs : List Value) (W : World), Below B w0 W → Tree.T.AtL bare W (fun g => g < B) (cells (.mk kd' oc' f' t' u' lo' hi' bo' op' ks')) vs → Buf B b l W → l.length + (writeF numT (.mk kd' oc' f' t' u' lo' hi' bo' op' ks')).length + 100 ≤ maxW → Calls Tryd.prog 26 #[.pointer (some ⟨b, 0, none⟩), .agg vs.toArray] W (PutU B b l (writeF numT (.mk kd' oc' f' t' u' lo' hi' bo' op' ks')) W))
    (hn : ps.length ≤ 1000000000000000000) (hm : l0.length + (joinF [44, 32] (ps ++ [markF oc' ++ writeF numT (.mk kd' oc' f' t' u' lo' hi' bo' op' ks')])).length + 101 ≤ maxW) :
    Calls Tryd.prog 42 #[.func (.func 56) #[] #[.pointer (some ⟨w.heap.size, 0, none⟩), .pointer (some ⟨T, 0, none⟩)], .pointer (some ⟨P, 0, none⟩), .pointer (some ⟨T, 0, none⟩)]
      (w.alloc (.cells #[.int .i64 kd', .int .i64 oc', .string f', .string t', .string u', .slice L' nl cl', .slice H' nh ch', .int .i64 bo', .int .i64 op', .slice K' nk ck'] 25))
      (fun e w' => e = .returned (.tuple #[]) ∧ WS B b T Q P kd oc f t u lo hi bo op n L Hh K cl ch ck l0 w0 (ps ++ [markF oc' ++ writeF numT (.mk kd' oc' f' t' u' lo' hi' bo' op' ks')]) w') := by
  have hbs := h.buf.size
  have hps := h.cnt.lt
  have hB : B ≤ w.heap.size := by have := h.buf.ge; omega
  refine ws_part (ws_alloc h _) 56 _ (enters_of Tryd.func56 (by kernel_rfl) rfl) (by omega) hn (fun W hC hW hb hl => ?_)
  have hKW := hW.blk (Blk.new w 25 #[.int .i64 kd', .int .i64 oc', .string f', .string t', .string u', .slice L' nl cl', .slice H' nh ch', .int .i64 bo', .int .i64 op', .slice K' nk ck']) (by omega) (by decide)
  have hbel : Below B w0 W := (h.wr.below.trans ((Below.refl B w).alloc hB _)).trans hW.below
  have hI : ∀ (W' : World) (l' : List UInt8), Wr B (fun g => g = b) W W' → Buf B b l' W' → l'.length + (writeF numT (.mk kd' oc' f' t' u' lo' hi' bo' op' ks')).length + 100 ≤ maxW →
      Calls Tryd.prog 26 #[.pointer (some ⟨b, 0, none⟩), .agg #[.int .i64 kd', .int .i64 oc', .string f', .string t', .string u', .slice L' nl cl', .slice H' nh ch', .int .i64 bo', .int .i64 op', .slice K' nk ck']] W' (PutU B b l' (writeF numT (.mk kd' oc' f' t' u' lo' hi' bo' op' ks')) W') := fun W' l' hw hb' hlen =>
    hd l' _ W' (hbel.trans hw.below) (AtL.below hau (hbel.trans hw.below) (fun g hg => hg)) hb' hlen
  have hlm : ∀ o : Int, (markF o).length ≤ 1 := fun o => by unfold markF; split <;> simp
  have hl2 := hl
  simp only [List.length_append] at hl2
  rcases ho with rfl | rfl | rfl | rfl | rfl
  · exact kid_0 hC.tB hKW h.caps.tb (by omega) hb (by simp only [List.length_append]; omega) (fun W' hw hb' => hI W' _ hw hb' (by simp only [List.length_append]; omega))
  · exact kid_1 hC.tB hKW h.caps.tb (by omega) hb (by simp only [List.length_append]; omega) (fun W' hw hb' => hI W' _ hw hb' (by have : (markF 1).length = 1 := rfl; simp only [List.length_append, List.length_cons, List.length_nil]; omega))
  · exact kid_2 hC.tB hKW h.caps.tb (by omega) hb (by simp only [List.length_append]; omega) (fun W' hw hb' => hI W' _ hw hb' (by have : (markF 2).length = 1 := rfl; simp only [List.length_append, List.length_cons, List.length_nil]; omega))
  · exact kid_3 hC.tB hKW h.caps.tb (by omega) hb (by simp only [List.length_append]; omega) (fun W' hw hb' => hI W' _ hw hb' (by have : (markF 3).length = 1 := rfl; simp only [List.length_append, List.length_cons, List.length_nil]; omega))
  · exact kid_4 hC.tB hKW h.caps.tb (by omega) hb (by simp only [List.length_append]; omega) (fun W' hw hb' => hI W' _ hw hb' (by have : (markF 4).length = 1 := rfl; simp only [List.length_append, List.length_cons, List.length_nil]; omega))
end
end Go.Proofs.YtinmiekbhoemjaaDoor.Qry
