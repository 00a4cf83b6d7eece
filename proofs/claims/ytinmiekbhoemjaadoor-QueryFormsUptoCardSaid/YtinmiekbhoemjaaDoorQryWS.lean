/- Steps of query.write in plain Lean: a part more. -/
import Derived.Test.YtinmiekbhoemjaaDoorQryClos
set_option linter.unusedVariables false
namespace Go.Proofs.YtinmiekbhoemjaaDoor.Qry
open Go.RowKit Words Tree QryP Kit

theorem Wr.more {B b P : Nat} {w0 w w' : World} (h : Wr B (fun g => g = b) w0 w) (k : Wr B (fun g => g = b ∨ g = P) w w') (hP : w0.heap.size ≤ P) : Wr B (fun g => g = b) w0 w' :=
  ⟨h.below.trans k.below, fun g o h1 h2 h3 => k.kept g o (h.kept g o h1 h2 h3) (fun e => by
    rcases e with rfl | rfl
    · exact h2 rfl
    · have := (Array.getElem?_eq_some_iff.1 h1).1; omega) h3⟩
/-- What holds while a part is written: ps are its pieces so far. -/
structure WS (B b T Q P : Nat) (kd oc : Int) (f t u : ByteArray) (lo hi : List Int) (bo op : Int) (n : Nat) (L Hh K : Option Addr) (cl ch ck : Nat) (l0 : List UInt8) (w0 : World) (ps : List (List UInt8)) (w : World) : Prop where
  caps : Caps B b T Q kd oc f t u lo hi bo op n L Hh K cl ch ck w
  buf : Buf B b (l0 ++ joinF [44, 32] ps) w
  cnt : Blk w P 3 #[.int .i64 (ps.length : Int)]
  wr : Wr B (fun g => g = b) w0 w
  pb : P ≠ b
  tp : T ≠ P
  qp : Q ≠ P
  new : w0.heap.size ≤ P
  bp : B ≤ P
theorem joinF_comma (ps : List (List UInt8)) (x : List UInt8) : joinF [44, 32] ps ++ (commaF ps.length ++ x) = joinF [44, 32] (ps ++ [x]) := by
  rw [joinF_snoc]
  by_cases h : ps = []
  · subst h; rfl
  · rw [if_neg h]
    have : ps.length ≠ 0 := fun e => h (List.eq_nil_of_length_eq_zero e)
    rw [commaF, if_neg this]
    simp
section
variable {B b T Q P : Nat} {kd oc : Int} {f t u : ByteArray} {lo hi : List Int} {bo op : Int} {n : Nat} {L Hh K : Option Addr} {cl ch ck : Nat} {l0 : List UInt8} {w0 w : World} {ps : List (List UInt8)} {x : List UInt8}
/-- A part more. -/
theorem ws_part (h : WS B b T Q P kd oc f t u lo hi bo op n L Hh K cl ch ck l0 w0 ps w) (F : FuncId) (caps : Array Value) (hE : ∀ args w, (callFunc F args).run Tryd.prog w = .ok (.enter F args) w)
    (hm : l0.length + (joinF [44, 32] (ps ++ [x])).length + 50 ≤ maxW) (hn : ps.length ≤ 1000000000000000000)
    (hF : ∀ W, Caps B b T Q kd oc f t u lo hi bo op n L Hh K cl ch ck W → Wr B (fun g => g = b ∨ g = P) w W → Buf B b (l0 ++ joinF [44, 32] ps ++ commaF ps.length) W → (l0 ++ joinF [44, 32] ps ++ commaF ps.length).length + x.length = l0.length + (joinF [44, 32] (ps ++ [x])).length → Calls Tryd.prog F caps W (PutU B b (l0 ++ joinF [44, 32] ps ++ commaF ps.length) x W)) :
    Calls Tryd.prog 42 #[.func (.func F) #[] caps, .pointer (some ⟨P, 0, none⟩), .pointer (some ⟨T, 0, none⟩)] w (fun e w' => e = .returned (.tuple #[]) ∧ WS B b T Q P kd oc f t u lo hi bo op n L Hh K cl ch ck l0 w0 (ps ++ [x]) w') := by
  have hj := joinF_comma ps x
  have hjl : (joinF [44, 32] ps).length + x.length ≤ (joinF [44, 32] (ps ++ [x])).length := by
    have := congrArg List.length hj
    simp only [List.length_append] at this
    omega
  have hT : ¬ (T = b ∨ T = P) := fun e => e.elim h.caps.tb h.tp
  have hQ : ¬ (Q = b ∨ Q = P) := fun e => e.elim h.caps.qb h.qp
  refine (part_any B b T P _ x ps.length F caps w h.caps.tB h.cnt h.pb h.caps.tb h.tp h.bp hn h.buf (by simp only [List.length_append]; omega) hE (fun W hW hb => ?_)).mono ?_
  · refine hF W (h.caps.wr hW hT hQ) hW hb ?_
    have := congrArg List.length hj
    simp only [List.length_append] at *
    omega
  · rintro e w' ⟨rfl, hb, hw, hc⟩
    refine ⟨rfl, h.caps.wr hw hT hQ, ?_, ?_, h.wr.more hw h.new, h.pb, h.tp, h.qp, h.new, h.bp⟩
    · rw [← hj]; simpa [List.append_assoc] using hb
    · simpa using hc
end
end Go.Proofs.YtinmiekbhoemjaaDoor.Qry
