/- Contracts: query.empty, the closure of query.own. Contracts: the closure of query.own, with no, one, two texts more. -/
import Derived.Test.YtinmiekbhoemjaaDoorQry
import Derived.Test.YtinmiekbhoemjaaDoorPack11
import Derived.Test.YtinmiekbhoemjaaDoorSchName
import Derived.WalkLawsBesides
import Derived.WalkSpells
import Derived.LoopTactic
section
set_option linter.unusedVariables false
namespace Go.Proofs.YtinmiekbhoemjaaDoor.Qry
open Go.RowKit Words Tree QryP Kit Sch

def emptyB (f t u : ByteArray) (nl nh : Nat) (b op : Int) (nk : Nat) : Bool := decide (f.size = 0) && decide (t.size = 0) && decide (u.size = 0) && decide (nl = 0) && decide (nh = 0) && decide (b = 0) && decide (op = 0) && decide (nk = 0)
theorem size_nil {s : ByteArray} : s.toList = [] ↔ s.size = 0 := by
  rw [ByteArray.toList_eq, ← List.length_eq_zero_iff]
  exact Iff.of_eq rfl
set_option maxRecDepth 100000 in
set_option maxHeartbeats 4000000 in
theorem empty_any (kd oc : Int) (f t u : ByteArray) (L H K : Option Addr) (nl cl nh ch nk ck : Nat) (b op : Int) (w : World) :
    Calls Tryd.prog 36 #[.agg #[.int .i64 kd, .int .i64 oc, .string f, .string t, .string u, .slice L nl cl, .slice H nh ch, .int .i64 b, .int .i64 op, .slice K nk ck]] w (AnsB (emptyB f t u nl nh b op nk) w) := by
  obtain ⟨r, hr⟩ : ∃ r, emptyB f t u nl nh b op nk = r := ⟨_, rfl⟩
  rw [hr]
  have HR := Lib.hid hr
  clear hr
  go_enter Tryd.func36, Tryd.ntmps36
  go_wp2_with fail
  all_goals
    go_ret
    refine ⟨?_, (Below.refl _ w).alloc (Nat.le_refl _) _⟩
    rw [← HR.out]
    simp_all [emptyB, size_nil] <;> (rw [Bool.eq_iff_iff]; simp)
end Go.Proofs.YtinmiekbhoemjaaDoor.Qry
end
section
set_option linter.unusedVariables false
namespace Go.Proofs.YtinmiekbhoemjaaDoor.Qry
open Go.RowKit Words Tree QryP Kit Sch

def Unit' (W : World) (e : Ending) (w' : World) : Prop := e = .returned (.tuple #[]) ∧ w' = W
set_option maxRecDepth 100000 in
set_option maxHeartbeats 4000000 in
theorem named0 (R : Nat) (cs : Array Value) (w : World) (hb : Blk w R 25 cs) (hc : cs.size = 10) :
    Calls Tryd.prog 35 #[.slice none 0 0, .pointer (some ⟨R, 0, none⟩)] w (Unit' (w.setCell ⟨R, 2, none⟩ (.string ⟨#[]⟩))) := by
  have f2 : w.frozen? ⟨R, 2, none⟩ = false := hb.frozen 2
  have c2 : ∃ v, w.cell? ⟨R, 2, none⟩ = some v := ⟨_, (hb.cell 2).trans (Array.getElem?_eq_getElem (by omega))⟩
  obtain ⟨v, c2⟩ := c2
  clear hb
  go_enter Tryd.func35, Tryd.ntmps35
  go_wp2_with fail
  go_loopw [8] (fun i wr => i = .int .i64 0 ∧ wr = w.setCell ⟨R, 2, none⟩ (.string ⟨#[]⟩)) (fun i _ => 0)
  case atStart => exact ⟨rfl, rfl⟩
  case round =>
    obtain ⟨rfl, rfl⟩ := hrel
    go_wp2_with fail
    go_end0
    exact ⟨rfl, rfl⟩
set_option maxRecDepth 100000 in
set_option maxHeartbeats 4000000 in
theorem named1 (R g : Nat) (cs : Array Value) (w : World) (hb : Blk w R 25 cs) (hc : cs.size = 10) (hp : w.cell? ⟨g, 0, none⟩ = some (.pointer (some ⟨R, 3, none⟩))) (hg : g ≠ R) :
    Calls Tryd.prog 35 #[.slice (some ⟨g, 0, none⟩) 1 1, .pointer (some ⟨R, 0, none⟩)] w (Unit' ((w.setCell ⟨R, 2, none⟩ (.string ⟨#[]⟩)).setCell ⟨R, 3, none⟩ (.string ⟨#[]⟩))) := by
  have f2 : w.frozen? ⟨R, 2, none⟩ = false := hb.frozen 2
  have hb2 := hb.set_ 2 (.string ⟨#[]⟩)
  have f3 : (w.setCell ⟨R, 2, none⟩ (.string ⟨#[]⟩)).frozen? ⟨R, 3, none⟩ = false := hb2.frozen 3
  obtain ⟨v, c2⟩ : ∃ v, w.cell? ⟨R, 2, none⟩ = some v := ⟨_, (hb.cell 2).trans (Array.getElem?_eq_getElem (by omega))⟩
  obtain ⟨v3, c3⟩ : ∃ v, (w.setCell ⟨R, 2, none⟩ (.string ⟨#[]⟩)).cell? ⟨R, 3, none⟩ = some v := ⟨_, (hb2.cell 3).trans (Array.getElem?_eq_getElem (by simp; omega))⟩
  have hp1 : (w.setCell ⟨R, 2, none⟩ (.string ⟨#[]⟩)).cell? ⟨g, 0, none⟩ = some (.pointer (some ⟨R, 3, none⟩)) := (World.cell?_of_block (Below.heap_setCell _ _ _ _ hg)).trans hp
  clear hb hp hb2
  go_enter Tryd.func35, Tryd.ntmps35
  go_wp2_with fail
  generalize w.setCell ⟨R, 2, none⟩ (.string ⟨#[]⟩) = W at *
  go_loopw [8] (fun i wr => ∃ k : Nat, k ≤ 1 ∧ i = .int .i64 k ∧ (k = 0 ∧ wr = W ∨ k = 1 ∧ wr = W.setCell ⟨R, 3, none⟩ (.string ⟨#[]⟩))) (fun i _ => 1 - (intOf i).toNat)
  case atStart => exact ⟨0, by omega, rfl, .inl ⟨rfl, rfl⟩⟩
  case round =>
    obtain ⟨k, hk, rfl, ⟨rfl, rfl⟩ | ⟨rfl, rfl⟩⟩ := hrel
    · go_wp2_with fail
      go_roundw
      case rel => exact ⟨1, by omega, by go_num, by simp⟩
      case measure => simp [intOf]
    · go_wp2_with fail
      go_end0
      exact ⟨rfl, rfl⟩
set_option maxRecDepth 100000 in
set_option maxHeartbeats 4000000 in
theorem named2 (R g : Nat) (cs : Array Value) (w : World) (hb : Blk w R 25 cs) (hc : cs.size = 10) (hp : w.cell? ⟨g, 0, none⟩ = some (.pointer (some ⟨R, 3, none⟩))) (hq : w.cell? ⟨g, 1, none⟩ = some (.pointer (some ⟨R, 4, none⟩))) (hg : g ≠ R) :
    Calls Tryd.prog 35 #[.slice (some ⟨g, 0, none⟩) 2 2, .pointer (some ⟨R, 0, none⟩)] w (Unit' (((w.setCell ⟨R, 2, none⟩ (.string ⟨#[]⟩)).setCell ⟨R, 3, none⟩ (.string ⟨#[]⟩)).setCell ⟨R, 4, none⟩ (.string ⟨#[]⟩))) := by
  have f2 : w.frozen? ⟨R, 2, none⟩ = false := hb.frozen 2
  have hb2 := hb.set_ 2 (.string ⟨#[]⟩)
  have hb3 := hb2.set_ 3 (.string ⟨#[]⟩)
  have f3 : (w.setCell ⟨R, 2, none⟩ (.string ⟨#[]⟩)).frozen? ⟨R, 3, none⟩ = false := hb2.frozen 3
  have f4 : ((w.setCell ⟨R, 2, none⟩ (.string ⟨#[]⟩)).setCell ⟨R, 3, none⟩ (.string ⟨#[]⟩)).frozen? ⟨R, 4, none⟩ = false := hb3.frozen 4
  obtain ⟨v, c2⟩ : ∃ v, w.cell? ⟨R, 2, none⟩ = some v := ⟨_, (hb.cell 2).trans (Array.getElem?_eq_getElem (by omega))⟩
  obtain ⟨v3, c3⟩ : ∃ v, (w.setCell ⟨R, 2, none⟩ (.string ⟨#[]⟩)).cell? ⟨R, 3, none⟩ = some v := ⟨_, (hb2.cell 3).trans (Array.getElem?_eq_getElem (by simp; omega))⟩
  obtain ⟨v4, c4⟩ : ∃ v, ((w.setCell ⟨R, 2, none⟩ (.string ⟨#[]⟩)).setCell ⟨R, 3, none⟩ (.string ⟨#[]⟩)).cell? ⟨R, 4, none⟩ = some v := ⟨_, (hb3.cell 4).trans (Array.getElem?_eq_getElem (by simp; omega))⟩
  have hp1 : (w.setCell ⟨R, 2, none⟩ (.string ⟨#[]⟩)).cell? ⟨g, 0, none⟩ = some (.pointer (some ⟨R, 3, none⟩)) := (World.cell?_of_block (Below.heap_setCell _ _ _ _ hg)).trans hp
  have hq1 : ((w.setCell ⟨R, 2, none⟩ (.string ⟨#[]⟩)).setCell ⟨R, 3, none⟩ (.string ⟨#[]⟩)).cell? ⟨g, 1, none⟩ = some (.pointer (some ⟨R, 4, none⟩)) := (World.cell?_of_block (by rw [Below.heap_setCell _ _ _ _ hg, Below.heap_setCell _ _ _ _ hg])).trans hq
  clear hb hp hq hb2 hb3
  go_enter Tryd.func35, Tryd.ntmps35
  go_wp2_with fail
  generalize w.setCell ⟨R, 2, none⟩ (.string ⟨#[]⟩) = W at *
  generalize hV : W.setCell ⟨R, 3, none⟩ (.string ⟨#[]⟩) = V at *
  have HV := Lib.hid hV
  clear hV
  go_loopw [8] (fun i wr => ∃ k : Nat, k ≤ 2 ∧ i = .int .i64 k ∧ (k = 0 ∧ wr = W ∨ k = 1 ∧ wr = V ∨ k = 2 ∧ wr = V.setCell ⟨R, 4, none⟩ (.string ⟨#[]⟩))) (fun i _ => 2 - (intOf i).toNat)
  case atStart => exact ⟨0, by omega, rfl, .inl ⟨rfl, rfl⟩⟩
  case round =>
    obtain ⟨k, hk, rfl, ⟨rfl, rfl⟩ | ⟨rfl, rfl⟩ | ⟨rfl, rfl⟩⟩ := hrel
    · go_wp2_with fail
      go_roundw
      case rel => exact ⟨1, by omega, by go_num, by simpa using HV.out⟩
      case measure => simp [intOf]
    · go_wp2_with fail
      go_roundw
      case rel => exact ⟨2, by omega, by go_num, by simp⟩
      case measure => simp [intOf]
    · go_wp2_with fail
      go_end0
      exact ⟨rfl, rfl⟩
end Go.Proofs.YtinmiekbhoemjaaDoor.Qry
end
