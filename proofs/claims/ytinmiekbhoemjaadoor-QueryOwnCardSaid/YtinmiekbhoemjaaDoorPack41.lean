/- Steps of query.write in plain Lean: a part more. Contracts: query.empty, the closure of query.own. Contracts: the closure of query.own, with no, one, two texts more. Contract: query.own, a kind at a time. -/
import Derived.Test.YtinmiekbhoemjaaDoorQryClos
import Derived.Test.YtinmiekbhoemjaaDoorPack6
import Derived.Test.YtinmiekbhoemjaaDoorPack7
import Derived.Test.YtinmiekbhoemjaaDoorPack14
import Derived.WalkLawsBesides
import Derived.WalkSpells
import Derived.LoopTactic
section
set_option linter.unusedVariables false
namespace Go.Proofs.YtinmiekbhoemjaaDoor.Qry
open Go.RowKit Words Tree QryP Kit

theorem Wr.more {B b P : Nat} {w0 w w' : World} (h : Wr B (fun g => g = b) w0 w) (k : Wr B (fun g => g = b ∨ g = P) w w') (hP : w0.heap.size ≤ P) : Wr B (fun g => g = b) w0 w' :=
  ⟨h.below.trans k.below, fun g o h1 h2 h3 => k.kept g o (h.kept g o h1 h2 h3) (fun e => by
    rcases e with rfl | rfl
    · exact h2 rfl
    · have := (Array.getElem?_eq_some_iff.1 h1).1; omega) h3⟩
/-- What holds while a part is written: ps are its pieces so far. -/
structure WS (B b T Q P : Nat) (kd oc : Int) (f t u : ByteArray) (lo hi : List Int) (bo op : Int) (n : Nat) (L Hh K : Option Addr) (cl ch ck : Nat) (l0 : List UInt8) (w0 : World) (ps : List (List UInt8)) (w : World) : Prop where
  caps : Caps B b T Q kd oc f t u lo hi bo op n L Hh K cl ch ck w
  buf : Buf B b (l0 ++ joinF [44, 32] ps) w
  cnt : Blk w P 3 #[.int .i64 (ps.length : Int)]
  wr : Wr B (fun g => g = b) w0 w
  pb : P ≠ b
  tp : T ≠ P
  qp : Q ≠ P
  new : w0.heap.size ≤ P
  bp : B ≤ P
theorem joinF_comma (ps : List (List UInt8)) (x : List UInt8) : joinF [44, 32] ps ++ (commaF ps.length ++ x) = joinF [44, 32] (ps ++ [x]) := by
  rw [joinF_snoc]
  by_cases h : ps = []
  · subst h; rfl
  · rw [if_neg h]
    have : ps.length ≠ 0 := fun e => h (List.eq_nil_of_length_eq_zero e)
    rw [commaF, if_neg this]
    simp
section
variable {B b T Q P : Nat} {kd oc : Int} {f t u : ByteArray} {lo hi : List Int} {bo op : Int} {n : Nat} {L Hh K : Option Addr} {cl ch ck : Nat} {l0 : List UInt8} {w0 w : World} {ps : List (List UInt8)} {x : List UInt8}
/-- A part more. -/
theorem ws_part (h : WS B b T Q P kd oc f t u lo hi bo op n L Hh K cl ch ck l0 w0 ps w) (F : FuncId) (caps : Array Value) (hE : ∀ args w, (callFunc F args).run Tryd.prog w = .ok (.enter F args) w)
    (hm : l0.length + (joinF [44, 32] (ps ++ [x])).length + 50 ≤ maxW) (hn : ps.length ≤ 1000000000000000000)
    (hF : ∀ W, Caps B b T Q kd oc f t u lo hi bo op n L Hh K cl ch ck W → Wr B (fun g => g = b ∨ g = P) w W → Buf B b (l0 ++ joinF [44, 32] ps ++ commaF ps.length) W → (l0 ++ joinF [44, 32] ps ++ commaF ps.length).length + x.length = l0.length + (joinF [44, 32] (ps ++ [x])).length → Calls Tryd.prog F caps W (PutU B b (l0 ++ joinF [44, 32] ps ++ commaF ps.length) x W)) :
    Calls Tryd.prog 42 #[.func (.func F) #[] caps, .pointer (some ⟨P, 0, none⟩), .pointer (some ⟨T, 0, none⟩)] w (fun e w' => e = .returned (.tuple #[]) ∧ WS B b T Q P kd oc f t u lo hi bo op n L Hh K cl ch ck l0 w0 (ps ++ [x]) w') := by
  have hj := joinF_comma ps x
  have hjl : (joinF [44, 32] ps).length + x.length ≤ (joinF [44, 32] (ps ++ [x])).length := by
    have := congrArg List.length hj
    simp only [List.length_append] at this
    omega
  have hT : ¬ (T = b ∨ T = P) := fun e => e.elim h.caps.tb h.tp
  have hQ : ¬ (Q = b ∨ Q = P) := fun e => e.elim h.caps.qb h.qp
  refine (part_any B b T P _ x ps.length F caps w h.caps.tB h.cnt h.pb h.caps.tb h.tp h.bp hn h.buf (by simp only [List.length_append]; omega) hE (fun W hW hb => ?_)).mono ?_
  · refine hF W (h.caps.wr hW hT hQ) hW hb ?_
    have := congrArg List.length hj
    simp only [List.length_append] at *
    omega
  · rintro e w' ⟨rfl, hb, hw, hc⟩
    refine ⟨rfl, h.caps.wr hw hT hQ, ?_, ?_, h.wr.more hw h.new, h.pb, h.tp, h.qp, h.new, h.bp⟩
    · rw [← hj]; simpa [List.append_assoc] using hb
    · simpa using hc
end
end Go.Proofs.YtinmiekbhoemjaaDoor.Qry
end
section
set_option linter.unusedVariables false
namespace Go.Proofs.YtinmiekbhoemjaaDoor.Qry
open Go.RowKit Words Tree QryP Kit Sch

def emptyB (f t u : ByteArray) (nl nh : Nat) (b op : Int) (nk : Nat) : Bool := decide (f.size = 0) && decide (t.size = 0) && decide (u.size = 0) && decide (nl = 0) && decide (nh = 0) && decide (b = 0) && decide (op = 0) && decide (nk = 0)
theorem size_nil {s : ByteArray} : s.toList = [] ↔ s.size = 0 := by
  rw [ByteArray.toList_eq, ← List.length_eq_zero_iff]
  exact Iff.of_eq rfl
set_option maxRecDepth 100000 in
set_option maxHeartbeats 4000000 in
theorem empty_any (kd oc : Int) (f t u : ByteArray) (L H K : Option Addr) (nl cl nh ch nk ck : Nat) (b op : Int) (w : World) :
    Calls Tryd.prog 36 #[.agg #[.int .i64 kd, .int .i64 oc, .string f, .string t, .string u, .slice L nl cl, .slice H nh ch, .int .i64 b, .int .i64 op, .slice K nk ck]] w (AnsB (emptyB f t u nl nh b op nk) w) := by
  obtain ⟨r, hr⟩ : ∃ r, emptyB f t u nl nh b op nk = r := ⟨_, rfl⟩
  rw [hr]
  have HR := Lib.hid hr
  clear hr
  go_enter Tryd.func36, Tryd.ntmps36
  go_wp2_with fail
  all_goals
    go_ret
    refine ⟨?_, (Below.refl _ w).alloc (Nat.le_refl _) _⟩
    rw [← HR.out]
    simp_all [emptyB, size_nil] <;> (rw [Bool.eq_iff_iff]; simp)
end Go.Proofs.YtinmiekbhoemjaaDoor.Qry
end
section
set_option linter.unusedVariables false
namespace Go.Proofs.YtinmiekbhoemjaaDoor.Qry
open Go.RowKit Words Tree QryP Kit Sch

def Unit' (W : World) (e : Ending) (w' : World) : Prop := e = .returned (.tuple #[]) ∧ w' = W
set_option maxRecDepth 100000 in
set_option maxHeartbeats 4000000 in
theorem named0 (R : Nat) (cs : Array Value) (w : World) (hb : Blk w R 25 cs) (hc : cs.size = 10) :
    Calls Tryd.prog 35 #[.slice none 0 0, .pointer (some ⟨R, 0, none⟩)] w (Unit' (w.setCell ⟨R, 2, none⟩ (.string ⟨#[]⟩))) := by
  have f2 : w.frozen? ⟨R, 2, none⟩ = false := hb.frozen 2
  have c2 : ∃ v, w.cell? ⟨R, 2, none⟩ = some v := ⟨_, (hb.cell 2).trans (Array.getElem?_eq_getElem (by omega))⟩
  obtain ⟨v, c2⟩ := c2
  clear hb
  go_enter Tryd.func35, Tryd.ntmps35
  go_wp2_with fail
  go_loopw [8] (fun i wr => i = .int .i64 0 ∧ wr = w.setCell ⟨R, 2, none⟩ (.string ⟨#[]⟩)) (fun i _ => 0)
  case atStart => exact ⟨rfl, rfl⟩
  case round =>
    obtain ⟨rfl, rfl⟩ := hrel
    go_wp2_with fail
    go_end0
    exact ⟨rfl, rfl⟩
set_option maxRecDepth 100000 in
set_option maxHeartbeats 4000000 in
theorem named1 (R g : Nat) (cs : Array Value) (w : World) (hb : Blk w R 25 cs) (hc : cs.size = 10) (hp : w.cell? ⟨g, 0, none⟩ = some (.pointer (some ⟨R, 3, none⟩))) (hg : g ≠ R) :
    Calls Tryd.prog 35 #[.slice (some ⟨g, 0, none⟩) 1 1, .pointer (some ⟨R, 0, none⟩)] w (Unit' ((w.setCell ⟨R, 2, none⟩ (.string ⟨#[]⟩)).setCell ⟨R, 3, none⟩ (.string ⟨#[]⟩))) := by
  have f2 : w.frozen? ⟨R, 2, none⟩ = false := hb.frozen 2
  have hb2 := hb.set_ 2 (.string ⟨#[]⟩)
  have f3 : (w.setCell ⟨R, 2, none⟩ (.string ⟨#[]⟩)).frozen? ⟨R, 3, none⟩ = false := hb2.frozen 3
  obtain ⟨v, c2⟩ : ∃ v, w.cell? ⟨R, 2, none⟩ = some v := ⟨_, (hb.cell 2).trans (Array.getElem?_eq_getElem (by omega))⟩
  obtain ⟨v3, c3⟩ : ∃ v, (w.setCell ⟨R, 2, none⟩ (.string ⟨#[]⟩)).cell? ⟨R, 3, none⟩ = some v := ⟨_, (hb2.cell 3).trans (Array.getElem?_eq_getElem (by simp; omega))⟩
  have hp1 : (w.setCell ⟨R, 2, none⟩ (.string ⟨#[]⟩)).cell? ⟨g, 0, none⟩ = some (.pointer (some ⟨R, 3, none⟩)) := (World.cell?_of_block (Below.heap_setCell _ _ _ _ hg)).trans hp
  clear hb hp hb2
  go_enter Tryd.func35, Tryd.ntmps35
  go_wp2_with fail
  generalize w.setCell ⟨R, 2, none⟩ (.string ⟨#[]⟩) = W at *
  go_loopw [8] (fun i wr => ∃ k : Nat, k ≤ 1 ∧ i = .int .i64 k ∧ (k = 0 ∧ wr = W ∨ k = 1 ∧ wr = W.setCell ⟨R, 3, none⟩ (.string ⟨#[]⟩))) (fun i _ => 1 - (intOf i).toNat)
  case atStart => exact ⟨0, by omega, rfl, .inl ⟨rfl, rfl⟩⟩
  case round =>
    obtain ⟨k, hk, rfl, ⟨rfl, rfl⟩ | ⟨rfl, rfl⟩⟩ := hrel
    · go_wp2_with fail
      go_roundw
      case rel => exact ⟨1, by omega, by go_num, by simp⟩
      case measure => simp [intOf]
    · go_wp2_with fail
      go_end0
      exact ⟨rfl, rfl⟩
set_option maxRecDepth 100000 in
set_option maxHeartbeats 4000000 in
theorem named2 (R g : Nat) (cs : Array Value) (w : World) (hb : Blk w R 25 cs) (hc : cs.size = 10) (hp : w.cell? ⟨g, 0, none⟩ = some (.pointer (some ⟨R, 3, none⟩))) (hq : w.cell? ⟨g, 1, none⟩ = some (.pointer (some ⟨R, 4, none⟩))) (hg : g ≠ R) :
    Calls Tryd.prog 35 #[.slice (some ⟨g, 0, none⟩) 2 2, .pointer (some ⟨R, 0, none⟩)] w (Unit' (((w.setCell ⟨R, 2, none⟩ (.string ⟨#[]⟩)).setCell ⟨R, 3, none⟩ (.string ⟨#[]⟩)).setCell ⟨R, 4, none⟩ (.string ⟨#[]⟩))) := by
  have f2 : w.frozen? ⟨R, 2, none⟩ = false := hb.frozen 2
  have hb2 := hb.set_ 2 (.string ⟨#[]⟩)
  have hb3 := hb2.set_ 3 (.string ⟨#[]⟩)
  have f3 : (w.setCell ⟨R, 2, none⟩ (.string ⟨#[]⟩)).frozen? ⟨R, 3, none⟩ = false := hb2.frozen 3
  have f4 : ((w.setCell ⟨R, 2, none⟩ (.string ⟨#[]⟩)).setCell ⟨R, 3, none⟩ (.string ⟨#[]⟩)).frozen? ⟨R, 4, none⟩ = false := hb3.frozen 4
  obtain ⟨v, c2⟩ : ∃ v, w.cell? ⟨R, 2, none⟩ = some v := ⟨_, (hb.cell 2).trans (Array.getElem?_eq_getElem (by omega))⟩
  obtain ⟨v3, c3⟩ : ∃ v, (w.setCell ⟨R, 2, none⟩ (.string ⟨#[]⟩)).cell? ⟨R, 3, none⟩ = some v := ⟨_, (hb2.cell 3).trans (Array.getElem?_eq_getElem (by simp; omega))⟩
  obtain ⟨v4, c4⟩ : ∃ v, ((w.setCell ⟨R, 2, none⟩ (.string ⟨#[]⟩)).setCell ⟨R, 3, none⟩ (.string ⟨#[]⟩)).cell? ⟨R, 4, none⟩ = some v := ⟨_, (hb3.cell 4).trans (Array.getElem?_eq_getElem (by simp; omega))⟩
  have hp1 : (w.setCell ⟨R, 2, none⟩ (.string ⟨#[]⟩)).cell? ⟨g, 0, none⟩ = some (.pointer (some ⟨R, 3, none⟩)) := (World.cell?_of_block (Below.heap_setCell _ _ _ _ hg)).trans hp
  have hq1 : ((w.setCell ⟨R, 2, none⟩ (.string ⟨#[]⟩)).setCell ⟨R, 3, none⟩ (.string ⟨#[]⟩)).cell? ⟨g, 1, none⟩ = some (.pointer (some ⟨R, 4, none⟩)) := (World.cell?_of_block (by rw [Below.heap_setCell _ _ _ _ hg, Below.heap_setCell _ _ _ _ hg])).trans hq
  clear hb hp hq hb2 hb3
  go_enter Tryd.func35, Tryd.ntmps35
  go_wp2_with fail
  generalize w.setCell ⟨R, 2, none⟩ (.string ⟨#[]⟩) = W at *
  generalize hV : W.setCell ⟨R, 3, none⟩ (.string ⟨#[]⟩) = V at *
  have HV := Lib.hid hV
  clear hV
  go_loopw [8] (fun i wr => ∃ k : Nat, k ≤ 2 ∧ i = .int .i64 k ∧ (k = 0 ∧ wr = W ∨ k = 1 ∧ wr = V ∨ k = 2 ∧ wr = V.setCell ⟨R, 4, none⟩ (.string ⟨#[]⟩))) (fun i _ => 2 - (intOf i).toNat)
  case atStart => exact ⟨0, by omega, rfl, .inl ⟨rfl, rfl⟩⟩
  case round =>
    obtain ⟨k, hk, rfl, ⟨rfl, rfl⟩ | ⟨rfl, rfl⟩ | ⟨rfl, rfl⟩⟩ := hrel
    · go_wp2_with fail
      go_roundw
      case rel => exact ⟨1, by omega, by go_num, by simpa using HV.out⟩
      case measure => simp [intOf]
    · go_wp2_with fail
      go_roundw
      case rel => exact ⟨2, by omega, by go_num, by simp⟩
      case measure => simp [intOf]
    · go_wp2_with fail
      go_end0
      exact ⟨rfl, rfl⟩
end Go.Proofs.YtinmiekbhoemjaaDoor.Qry
end
section
set_option linter.unusedVariables false
namespace Go.Proofs.YtinmiekbhoemjaaDoor.Qry
open Go.RowKit Words Tree QryP Kit Sch

/-- Whether a part occurs as it must. -/
def occB (under oc : Int) : Bool := if under = 8 then decide (1 ≤ oc ∧ oc ≤ 4) else decide (oc = 0)
theorem occ_cases (under oc : Int) : (occB under oc = true ∧ under = 8 ∧ 1 ≤ oc ∧ oc ≤ 4) ∨ (occB under oc = true ∧ ¬ under = 8 ∧ oc = 0) ∨ (occB under oc = false ∧ under = 8 ∧ oc < 1) ∨ (occB under oc = false ∧ under = 8 ∧ 4 < oc) ∨ (occB under oc = false ∧ ¬ under = 8 ∧ ¬ oc = 0) := by
  unfold occB
  by_cases h : under = 8
  · rw [if_pos h]
    by_cases h1 : 1 ≤ oc
    · by_cases h2 : oc ≤ 4
      · exact .inl ⟨decide_eq_true ⟨h1, h2⟩, h, h1, h2⟩
      · exact .inr (.inr (.inr (.inl ⟨decide_eq_false (fun x => h2 x.2), h, by omega⟩)))
    · exact .inr (.inr (.inl ⟨decide_eq_false (fun x => h1 x.1), h, by omega⟩))
  · rw [if_neg h]
    by_cases h1 : oc = 0
    · exact .inr (.inl ⟨decide_eq_true h1, h, h1⟩)
    · exact .inr (.inr (.inr (.inr ⟨decide_eq_false h1, h, h1⟩)))
theorem fin2 {w W w' : World} {o1 o2 : Obj} (e : W = (w.alloc o1).alloc o2) (h : Below W.heap.size W w') : Below w.heap.size w w' := by
  subst e
  exact (((Below.refl _ w).alloc (Nat.le_refl _) _).alloc (by simp) _).trans (h.mono (by simp; omega))
section
variable (kd oc : Int) (f t u : ByteArray) (L H K : Option Addr) (nl cl nh ch nk ck : Nat) (b op under : Int) (w : World)
set_option maxRecDepth 100000 in
set_option maxHeartbeats 4000000 in
theorem own_occ (ho : occB under oc = false) :
    Calls Tryd.prog 22 #[.agg #[.int .i64 kd, .int .i64 oc, .string f, .string t, .string u, .slice L nl cl, .slice H nh ch, .int .i64 b, .int .i64 op, .slice K nk ck], .int .i64 under] w (AnsB false w) := by
  rcases occ_cases under oc with ⟨h, _⟩ | ⟨h, _⟩ | ⟨_, h1, h2⟩ | ⟨_, h1, h2⟩ | ⟨_, h1, h2⟩
  · rw [h] at ho; cases ho
  · rw [h] at ho; cases ho
  · subst h1
    have d1 : decide (oc < 1) = true := decide_eq_true h2
    clear ho
    go_enter Tryd.func22, Tryd.ntmps22
    go_wp2_with fail
    go_ret
    exact ⟨rfl, (Below.refl _ w).alloc (Nat.le_refl _) _⟩
  · subst h1
    have d1 : decide (oc < 1) = false := decide_eq_false (by omega)
    have d2 : decide (4 < oc) = true := decide_eq_true h2
    clear ho
    go_enter Tryd.func22, Tryd.ntmps22
    go_wp2_with fail
    go_ret
    exact ⟨rfl, (Below.refl _ w).alloc (Nat.le_refl _) _⟩
  · have d1 : (under == 8) = false := by simpa using h1
    have d2 : (under != 8) = true := by simpa using h1
    have d3 : (oc != 0) = true := by simpa using h2
    clear ho
    go_enter Tryd.func22, Tryd.ntmps22
    go_wp2_with fail
    go_ret
    exact ⟨rfl, (Below.refl _ w).alloc (Nat.le_refl _) _⟩
set_option maxRecDepth 100000 in
set_option maxHeartbeats 4000000 in
theorem own_12 (ho : occB under oc = true) (hk : kd = 1 ∨ kd = 2) :
    Calls Tryd.prog 22 #[.agg #[.int .i64 kd, .int .i64 oc, .string f, .string t, .string u, .slice L nl cl, .slice H nh ch, .int .i64 b, .int .i64 op, .slice K nk ck], .int .i64 under] w (AnsB (emptyB f t u nl nh b op nk) w) := by
  have hmf : ∀ (fn : Fn) (first cap : Array Value) (w : World), (Instr.makeFunc fn first cap).run Tryd.prog w = .ok (.func fn first cap) w := fun _ _ _ _ => rfl
  have HE := Lib.hid (fun W => empty_any 0 0 f t u L H K nl cl nh ch nk ck b op W)
  generalize emptyB f t u nl nh b op nk = r at *
  rcases occ_cases under oc with ⟨_, h1, h2, h3⟩ | ⟨_, h1, h2⟩ | ⟨h, _⟩ | ⟨h, _⟩ | ⟨h, _⟩
  · subst h1
    have d1 : decide (oc < 1) = false := decide_eq_false (by omega)
    have d2 : decide (4 < oc) = false := decide_eq_false (by omega)
    clear ho
    rcases hk with rfl | rfl
    all_goals
      go_enter Tryd.func22, Tryd.ntmps22
      go_wp2_with fail
      refine (HE.out _).mono ?_
      rintro e w' ⟨rfl, hb⟩
      have HB := Lib.hid (fin2 rfl hb)
      clear hb
      go_wp2_with fail
      go_ret
      exact ⟨rfl, HB.out⟩
  · subst h2
    have d1 : (under == 8) = false := by simpa using h1
    have d2 : (under != 8) = true := by simpa using h1
    clear ho
    rcases hk with rfl | rfl
    all_goals
      go_enter Tryd.func22, Tryd.ntmps22
      go_wp2_with fail
      refine (HE.out _).mono ?_
      rintro e w' ⟨rfl, hb⟩
      have HB := Lib.hid (fin2 rfl hb)
      clear hb
      go_wp2_with fail
      go_ret
      exact ⟨rfl, HB.out⟩
  all_goals (rw [h] at ho; cases ho)
end
end Go.Proofs.YtinmiekbhoemjaaDoor.Qry
end
