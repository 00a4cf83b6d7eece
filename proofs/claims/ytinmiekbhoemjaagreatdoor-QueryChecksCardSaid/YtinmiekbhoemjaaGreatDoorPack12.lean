/- Contract: asker.field. Contracts: query.empty, the closure of query.own. Contracts: the closure of query.own, with no, one, two texts more. Contract: query.own, a kind at a time. Contract: query.own at each kind. Written by gen_own.py. -/
import Derived.Test.YtinmiekbhoemjaaGreatDoorPack8
import Derived.Test.YtinmiekbhoemjaaGreatDoorPack10
import Derived.Test.YtinmiekbhoemjaaGreatDoorPack11
import Derived.Laws.ResultCell
import Derived.Test.YtinmiekbhoemjaaGreatDoorPack7
import Derived.Test.YtinmiekbhoemjaaGreatDoorPack1
import Derived.WalkLawsBesides
import Derived.WalkSpells
import Derived.LoopTactic
section
set_option linter.unusedVariables false
namespace Go.Proofs.YtinmiekbhoemjaaGreatDoor.Qck
open Go.RowKit Words Tree SchP QckP Kit Owned Sch

/-- One result in a row of its own, one in a slot. -/
theorem results_cellS {P : Program} {fn : Func} {p u : Tmp} {ty : TypeId} (h : fn.results = #[.cell p ty, .tmp u]) (tmps : Array Value) (w : World) (g : Nat) (cs : Array Value) (d : TypeDesc)
    (hp : tmps.getD p undef = .pointer (some ⟨g, 0, none⟩)) (b0 : Blk w g ty cs) (hu : P.underlying ty = some d) (hd : (match d with | .struct _ | .array _ _ => true | _ => false) = true) (hi : (P.info? ty).map (·.size) = some cs.size) :
    (results fn tmps).run P w = .ok (.tuple #[.agg cs, tmps.getD u undef]) w := by
  rw [results_cell_tmp h, hp]
  simp [asAddr, run_loadVar_row w g ty ty cs (0, 0) d b0 hu hd hi, Result.andThen]
/-- A row of seven cells, written over. -/
theorem set7 {B : Nat} {w W : World} {g : Nat} {t : TypeId} {c0 c1 c2 c3 c4 c5 c6 : Value} (h : Blk W g t #[c0, c1, c2, c3, c4, c5, c6]) (hb : Below B w W) (hg : B ≤ g) (v0 v1 v2 v3 v4 v5 v6 : Value) : Blk (((((((W.setCell ⟨g, 0, none⟩ v0).setCell ⟨g, 1, none⟩ v1).setCell ⟨g, 2, none⟩ v2).setCell ⟨g, 3, none⟩ v3).setCell ⟨g, 4, none⟩ v4).setCell ⟨g, 5, none⟩ v5).setCell ⟨g, 6, none⟩ v6) g t #[v0, v1, v2, v3, v4, v5, v6] ∧ Below B w (((((((W.setCell ⟨g, 0, none⟩ v0).setCell ⟨g, 1, none⟩ v1).setCell ⟨g, 2, none⟩ v2).setCell ⟨g, 3, none⟩ v3).setCell ⟨g, 4, none⟩ v4).setCell ⟨g, 5, none⟩ v5).setCell ⟨g, 6, none⟩ v6) := by
  have b0 : Blk (W.setCell ⟨g, 0, none⟩ v0) g t #[v0, c1, c2, c3, c4, c5, c6] := h.set_ 0 v0
  have d0 : Below B w (W.setCell ⟨g, 0, none⟩ v0) := Below.setCell hb hg v0
  have b1 : Blk ((W.setCell ⟨g, 0, none⟩ v0).setCell ⟨g, 1, none⟩ v1) g t #[v0, v1, c2, c3, c4, c5, c6] := b0.set_ 1 v1
  have d1 : Below B w ((W.setCell ⟨g, 0, none⟩ v0).setCell ⟨g, 1, none⟩ v1) := Below.setCell d0 hg v1
  have b2 : Blk (((W.setCell ⟨g, 0, none⟩ v0).setCell ⟨g, 1, none⟩ v1).setCell ⟨g, 2, none⟩ v2) g t #[v0, v1, v2, c3, c4, c5, c6] := b1.set_ 2 v2
  have d2 : Below B w (((W.setCell ⟨g, 0, none⟩ v0).setCell ⟨g, 1, none⟩ v1).setCell ⟨g, 2, none⟩ v2) := Below.setCell d1 hg v2
  have b3 : Blk ((((W.setCell ⟨g, 0, none⟩ v0).setCell ⟨g, 1, none⟩ v1).setCell ⟨g, 2, none⟩ v2).setCell ⟨g, 3, none⟩ v3) g t #[v0, v1, v2, v3, c4, c5, c6] := b2.set_ 3 v3
  have d3 : Below B w ((((W.setCell ⟨g, 0, none⟩ v0).setCell ⟨g, 1, none⟩ v1).setCell ⟨g, 2, none⟩ v2).setCell ⟨g, 3, none⟩ v3) := Below.setCell d2 hg v3
  have b4 : Blk (((((W.setCell ⟨g, 0, none⟩ v0).setCell ⟨g, 1, none⟩ v1).setCell ⟨g, 2, none⟩ v2).setCell ⟨g, 3, none⟩ v3).setCell ⟨g, 4, none⟩ v4) g t #[v0, v1, v2, v3, v4, c5, c6] := b3.set_ 4 v4
  have d4 : Below B w (((((W.setCell ⟨g, 0, none⟩ v0).setCell ⟨g, 1, none⟩ v1).setCell ⟨g, 2, none⟩ v2).setCell ⟨g, 3, none⟩ v3).setCell ⟨g, 4, none⟩ v4) := Below.setCell d3 hg v4
  have b5 : Blk ((((((W.setCell ⟨g, 0, none⟩ v0).setCell ⟨g, 1, none⟩ v1).setCell ⟨g, 2, none⟩ v2).setCell ⟨g, 3, none⟩ v3).setCell ⟨g, 4, none⟩ v4).setCell ⟨g, 5, none⟩ v5) g t #[v0, v1, v2, v3, v4, v5, c6] := b4.set_ 5 v5
  have d5 : Below B w ((((((W.setCell ⟨g, 0, none⟩ v0).setCell ⟨g, 1, none⟩ v1).setCell ⟨g, 2, none⟩ v2).setCell ⟨g, 3, none⟩ v3).setCell ⟨g, 4, none⟩ v4).setCell ⟨g, 5, none⟩ v5) := Below.setCell d4 hg v5
  have b6 : Blk (((((((W.setCell ⟨g, 0, none⟩ v0).setCell ⟨g, 1, none⟩ v1).setCell ⟨g, 2, none⟩ v2).setCell ⟨g, 3, none⟩ v3).setCell ⟨g, 4, none⟩ v4).setCell ⟨g, 5, none⟩ v5).setCell ⟨g, 6, none⟩ v6) g t #[v0, v1, v2, v3, v4, v5, v6] := b5.set_ 6 v6
  have d6 : Below B w (((((((W.setCell ⟨g, 0, none⟩ v0).setCell ⟨g, 1, none⟩ v1).setCell ⟨g, 2, none⟩ v2).setCell ⟨g, 3, none⟩ v3).setCell ⟨g, 4, none⟩ v4).setCell ⟨g, 5, none⟩ v5).setCell ⟨g, 6, none⟩ v6) := Below.setCell d5 hg v6
  exact ⟨b6, d6⟩
def zeroF : FT := ⟨⟨#[]⟩, 0, [], 0, 0, false, false⟩
/-- A field by its name, or the zero field and what is wrong. -/
def fieldG (l : List FT) (s : ByteArray) : FT × Int := match fieldF l s with
  | none => (zeroF, 81)
  | some f => (f, 0)
/-- The schema of what asks. -/
def Sk (w : World) (ga : Nat) (l : List FT) : Prop := ga < w.heap.size ∧ l.length * 72 ≤ 140737488351232 ∧ ∃ u, w.cell? ⟨ga, 0, none⟩ = some u ∧ T.At bare w (fun g => g < w.heap.size) (fieldsT l) u
theorem Sk.below {w w' : World} {ga : Nat} {l : List FT} (h : Sk w ga l) (hb : Below w.heap.size w w') : Sk w' ga l := by
  obtain ⟨h1, h2, u, h3, h4⟩ := h
  exact ⟨Nat.lt_of_lt_of_le h1 hb.size, h2, u, (hb.cell h1).trans h3, At.below h4 hb (fun g hg => Nat.lt_of_lt_of_le hg hb.size)⟩
def FieldRet (l : List FT) (s : ByteArray) (w : World) (e : Ending) (w' : World) : Prop :=
  ∃ vs, e = .returned (.tuple #[.agg vs.toArray, .int .i64 (fieldG l s).2]) ∧ Below w.heap.size w w' ∧ T.AtL bare w' (fun g => g < w.heap.size) (fcells (fieldG l s).1) vs
theorem zero_at (w : World) (B : Nat) : T.AtL bare w (fun g => g < B) (fcells zeroF) [.string ⟨#[]⟩, .int .i64 0, .slice none 0 0, .int .i64 0, .int .i64 0, .bool false, .bool false] := by
  refine fcells_mk ?_
  simp only [numsT, zeroF, T.At]
  exact ⟨none, 0, [], rfl, by simp [bare], by simp [maxLen], by simp, by simp [bare], trivial⟩
set_option maxRecDepth 100000 in
set_option maxHeartbeats 4000000 in
theorem field_any (ga : Nat) (l : List FT) (s : ByteArray) (w : World) (h : Sk w ga l) :
    Calls Tryz.prog 32 #[.pointer (some ⟨ga, 0, none⟩), .string s] w (FieldRet l s w) := by
  obtain ⟨hga, hl, u, hcu, hu⟩ := h
  have HFI := Lib.hid (fun (W : World) (hW : Below w.heap.size w W) => find_any u l s W (At.below hu hW (fun g hg => Nat.lt_of_lt_of_le hg hW.size)) hl)
  obtain ⟨A, cap, rfl, hc, hm, hel⟩ := at_row fcells_len hu
  have EL := Lib.hid hel
  clear hel hu
  go_enter Tryz.func32, Tryz.ntmps32
  have HCU := Lib.hid hcu
  have HB := Lib.hid ((Below.refl _ w).alloc (Nat.le_refl _) (Obj.cells #[.string ⟨#[]⟩, .int .i64 0, .slice none 0 0, .int .i64 0, .int .i64 0, .bool false, .bool false] 46))
  have hcu1 := (HB.out.cell (p := ⟨ga, 0, none⟩) hga).trans hcu
  have BZ := Lib.hid (Blk.new w 46 #[.string ⟨#[]⟩, .int .i64 0, .slice none 0 0, .int .i64 0, .int .i64 0, .bool false, .bool false])
  go_wp2_with fail
  refine (HFI.out _ HB.out).mono ?_
  rintro e w1 ⟨rfl, hb1⟩
  have B0 : Blk w1 w.heap.size 46 _ := BZ.out.below hb1 (by simp)
  have HB1 := Lib.hid (HB.out.trans (hb1.mono (by simp)) : Below w.heap.size w w1)
  have hc1 : w1.cell? ⟨ga, 0, none⟩ = some (.slice A l.length cap) := (HB1.out.cell hga).trans hcu
  have hz1 := HB1.out.size
  have hs1 : w.heap.size < w1.heap.size := B0.lt
  clear hb1 hcu1 hcu
  cases hf : findF l s with
  | none =>
    have hz : findZ l s = -1 := by rw [findZ_eq, hf]; rfl
    have hG : fieldG l s = (zeroF, 81) := by rw [fieldG, fieldF, hf]; rfl
    have HZ := Lib.hid (set7 B0 HB1.out (Nat.le_refl _) (.string ⟨#[]⟩) (.int .i64 0) (.slice none 0 0) (.int .i64 0) (.int .i64 0) (.bool false) (.bool false))
    have HG := Lib.hid hG
    obtain ⟨r0, r1, r2, r3, r4, r5, r6⟩ := blk7 B0
    have z0 : w1.frozen? ⟨w.heap.size, 0, none⟩ = false := B0.frozen 0
    have z1 : w1.frozen? ⟨w.heap.size, 1, none⟩ = false := B0.frozen 1
    have z2 : w1.frozen? ⟨w.heap.size, 2, none⟩ = false := B0.frozen 2
    have z3 : w1.frozen? ⟨w.heap.size, 3, none⟩ = false := B0.frozen 3
    have z4 : w1.frozen? ⟨w.heap.size, 4, none⟩ = false := B0.frozen 4
    have z5 : w1.frozen? ⟨w.heap.size, 5, none⟩ = false := B0.frozen 5
    have z6 : w1.frozen? ⟨w.heap.size, 6, none⟩ = false := B0.frozen 6
    rw [hz]
    clear B0 hf hz hG
    go_wp2_with fail
    refine ⟨rfl, _, results_cellS rfl _ _ w.heap.size _ _ rfl HZ.out.1 Tryz.underlying46 rfl (by kernel_rfl), ?_⟩
    refine ⟨_, by rw [HG.out]; rfl, HZ.out.2, ?_⟩
    rw [HG.out]
    exact zero_at _ _
  | some i =>
    obtain ⟨hi, -, -⟩ := findF_some hf
    have hz : findZ l s = (i : Int) := by rw [findZ_eq, hf]; rfl
    have hG : fieldG l s = (l[i], 0) := by rw [fieldG, fieldF, hf]; simp [hi]
    rw [hz]
    obtain ⟨ad, us, rfl, hba, au, lu, cu⟩ := EL.out i hi
    replace cu := cu.keep (w' := w1) (fun p hp => HB1.out.cell (by rw [hp, block_of_add]; exact hba))
    have hab : (ad.add (i * 7)).block < w1.heap.size := by rw [block_of_add]; omega
    generalize l[i] = f at *
    have HAU := Lib.hid (And.intro au hba)
    obtain ⟨vc, rfl, gc⟩ := at_fcells au
    obtain ⟨X, z, rfl, _, _⟩ := at_slice gc
    obtain ⟨a0, a1', a2', a3, a4, a5, a6⟩ := seven cu
    have HZ := Lib.hid (set7 B0 HB1.out (Nat.le_refl _) (.string f.name) (.int .i64 f.kind) (.slice X f.chain.length z) (.int .i64 f.scale) (.int .i64 f.dims) (.bool f.many) (.bool f.stored))
    have HG := Lib.hid hG
    have HBX := Lib.hid B0
    have hm1 : max 0 (i : Int) = i := by omega
    have hd1 : decide (0 ≤ (i : Int)) = true := decide_eq_true (by omega)
    rw [hm1, hd1]
    clear cu hm1 hd1 B0 hf hz hG au gc lu
    obtain ⟨f0, f1, f2, f3, f4, f5, f6⟩ := f
    dsimp only at *
    have HA := Lib.hid (And.intro HAU.out.1 (Nat.le_refl w.heap.size))
    clear HAU HFI EL HCU
    have B0 := HBX.out
    obtain ⟨r0, r1, r2, r3, r4, r5, r6⟩ := blk7 B0
    have z0 : w1.frozen? ⟨w.heap.size, 0, none⟩ = false := B0.frozen 0
    have z1 : w1.frozen? ⟨w.heap.size, 1, none⟩ = false := B0.frozen 1
    have z2 : w1.frozen? ⟨w.heap.size, 2, none⟩ = false := B0.frozen 2
    have z3 : w1.frozen? ⟨w.heap.size, 3, none⟩ = false := B0.frozen 3
    have z4 : w1.frozen? ⟨w.heap.size, 4, none⟩ = false := B0.frozen 4
    have z5 : w1.frozen? ⟨w.heap.size, 5, none⟩ = false := B0.frozen 5
    have z6 : w1.frozen? ⟨w.heap.size, 6, none⟩ = false := B0.frozen 6
    clear B0 HBX HB BZ
    have HS := Lib.hid hs1
    clear hs1 hz1
    generalize hgb : w.heap.size = gb at *
    have HGB := Lib.hid hgb
    clear hgb
    go_wp2_with fail
    refine ⟨rfl, _, results_cellS rfl _ _ gb _ _ rfl HZ.out.1 Tryz.underlying46 rfl (by kernel_rfl), ?_⟩
    have hgb := HGB.out
    subst hgb
    refine ⟨_, by rw [HG.out]; rfl, HZ.out.2, ?_⟩
    rw [HG.out]
    exact AtL.below HA.out.1 HZ.out.2 (fun g hg => hg)
end Go.Proofs.YtinmiekbhoemjaaGreatDoor.Qck
end
section
set_option linter.unusedVariables false
namespace Go.Proofs.YtinmiekbhoemjaaGreatDoor.Qry
open Go.RowKit Words Tree QryP Kit Sch

def emptyB (f t u : ByteArray) (nl nh : Nat) (b op : Int) (nk : Nat) : Bool := decide (f.size = 0) && decide (t.size = 0) && decide (u.size = 0) && decide (nl = 0) && decide (nh = 0) && decide (b = 0) && decide (op = 0) && decide (nk = 0)
theorem size_nil {s : ByteArray} : s.toList = [] ↔ s.size = 0 := by
  rw [ByteArray.toList_eq, ← List.length_eq_zero_iff]
  exact Iff.of_eq rfl
set_option maxRecDepth 100000 in
set_option maxHeartbeats 4000000 in
theorem empty_any (kd oc : Int) (f t u : ByteArray) (L H K : Option Addr) (nl cl nh ch nk ck : Nat) (b op : Int) (w : World) :
    Calls Tryz.prog 61 #[.agg #[.int .i64 kd, .int .i64 oc, .string f, .string t, .string u, .slice L nl cl, .slice H nh ch, .int .i64 b, .int .i64 op, .slice K nk ck]] w (AnsB (emptyB f t u nl nh b op nk) w) := by
  obtain ⟨r, hr⟩ : ∃ r, emptyB f t u nl nh b op nk = r := ⟨_, rfl⟩
  rw [hr]
  have HR := Lib.hid hr
  clear hr
  go_enter Tryz.func61, Tryz.ntmps61
  go_wp2_with fail
  all_goals
    go_ret
    refine ⟨?_, (Below.refl _ w).alloc (Nat.le_refl _) _⟩
    rw [← HR.out]
    simp_all [emptyB, size_nil] <;> (rw [Bool.eq_iff_iff]; simp)
end Go.Proofs.YtinmiekbhoemjaaGreatDoor.Qry
end
section
set_option linter.unusedVariables false
namespace Go.Proofs.YtinmiekbhoemjaaGreatDoor.Qry
open Go.RowKit Words Tree QryP Kit Sch

def Unit' (W : World) (e : Ending) (w' : World) : Prop := e = .returned (.tuple #[]) ∧ w' = W
set_option maxRecDepth 100000 in
set_option maxHeartbeats 4000000 in
theorem named0 (R : Nat) (cs : Array Value) (w : World) (hb : Blk w R 28 cs) (hc : cs.size = 10) :
    Calls Tryz.prog 60 #[.slice none 0 0, .pointer (some ⟨R, 0, none⟩)] w (Unit' (w.setCell ⟨R, 2, none⟩ (.string ⟨#[]⟩))) := by
  have f2 : w.frozen? ⟨R, 2, none⟩ = false := hb.frozen 2
  have c2 : ∃ v, w.cell? ⟨R, 2, none⟩ = some v := ⟨_, (hb.cell 2).trans (Array.getElem?_eq_getElem (by omega))⟩
  obtain ⟨v, c2⟩ := c2
  clear hb
  go_enter Tryz.func60, Tryz.ntmps60
  go_wp2_with fail
  go_loopw [8] (fun i wr => i = .int .i64 0 ∧ wr = w.setCell ⟨R, 2, none⟩ (.string ⟨#[]⟩)) (fun i _ => 0)
  case atStart => exact ⟨rfl, rfl⟩
  case round =>
    obtain ⟨rfl, rfl⟩ := hrel
    go_wp2_with fail
    go_end0
    exact ⟨rfl, rfl⟩
set_option maxRecDepth 100000 in
set_option maxHeartbeats 4000000 in
theorem named1 (R g : Nat) (cs : Array Value) (w : World) (hb : Blk w R 28 cs) (hc : cs.size = 10) (hp : w.cell? ⟨g, 0, none⟩ = some (.pointer (some ⟨R, 3, none⟩))) (hg : g ≠ R) :
    Calls Tryz.prog 60 #[.slice (some ⟨g, 0, none⟩) 1 1, .pointer (some ⟨R, 0, none⟩)] w (Unit' ((w.setCell ⟨R, 2, none⟩ (.string ⟨#[]⟩)).setCell ⟨R, 3, none⟩ (.string ⟨#[]⟩))) := by
  have f2 : w.frozen? ⟨R, 2, none⟩ = false := hb.frozen 2
  have hb2 := hb.set_ 2 (.string ⟨#[]⟩)
  have f3 : (w.setCell ⟨R, 2, none⟩ (.string ⟨#[]⟩)).frozen? ⟨R, 3, none⟩ = false := hb2.frozen 3
  obtain ⟨v, c2⟩ : ∃ v, w.cell? ⟨R, 2, none⟩ = some v := ⟨_, (hb.cell 2).trans (Array.getElem?_eq_getElem (by omega))⟩
  obtain ⟨v3, c3⟩ : ∃ v, (w.setCell ⟨R, 2, none⟩ (.string ⟨#[]⟩)).cell? ⟨R, 3, none⟩ = some v := ⟨_, (hb2.cell 3).trans (Array.getElem?_eq_getElem (by simp; omega))⟩
  have hp1 : (w.setCell ⟨R, 2, none⟩ (.string ⟨#[]⟩)).cell? ⟨g, 0, none⟩ = some (.pointer (some ⟨R, 3, none⟩)) := (World.cell?_of_block (Below.heap_setCell _ _ _ _ hg)).trans hp
  clear hb hp hb2
  go_enter Tryz.func60, Tryz.ntmps60
  go_wp2_with fail
  generalize w.setCell ⟨R, 2, none⟩ (.string ⟨#[]⟩) = W at *
  go_loopw [8] (fun i wr => ∃ k : Nat, k ≤ 1 ∧ i = .int .i64 k ∧ (k = 0 ∧ wr = W ∨ k = 1 ∧ wr = W.setCell ⟨R, 3, none⟩ (.string ⟨#[]⟩))) (fun i _ => 1 - (intOf i).toNat)
  case atStart => exact ⟨0, by omega, rfl, .inl ⟨rfl, rfl⟩⟩
  case round =>
    obtain ⟨k, hk, rfl, ⟨rfl, rfl⟩ | ⟨rfl, rfl⟩⟩ := hrel
    · go_wp2_with fail
      go_roundw
      case rel => exact ⟨1, by omega, by go_num, by simp⟩
      case measure => simp [intOf]
    · go_wp2_with fail
      go_end0
      exact ⟨rfl, rfl⟩
set_option maxRecDepth 100000 in
set_option maxHeartbeats 4000000 in
theorem named2 (R g : Nat) (cs : Array Value) (w : World) (hb : Blk w R 28 cs) (hc : cs.size = 10) (hp : w.cell? ⟨g, 0, none⟩ = some (.pointer (some ⟨R, 3, none⟩))) (hq : w.cell? ⟨g, 1, none⟩ = some (.pointer (some ⟨R, 4, none⟩))) (hg : g ≠ R) :
    Calls Tryz.prog 60 #[.slice (some ⟨g, 0, none⟩) 2 2, .pointer (some ⟨R, 0, none⟩)] w (Unit' (((w.setCell ⟨R, 2, none⟩ (.string ⟨#[]⟩)).setCell ⟨R, 3, none⟩ (.string ⟨#[]⟩)).setCell ⟨R, 4, none⟩ (.string ⟨#[]⟩))) := by
  have f2 : w.frozen? ⟨R, 2, none⟩ = false := hb.frozen 2
  have hb2 := hb.set_ 2 (.string ⟨#[]⟩)
  have hb3 := hb2.set_ 3 (.string ⟨#[]⟩)
  have f3 : (w.setCell ⟨R, 2, none⟩ (.string ⟨#[]⟩)).frozen? ⟨R, 3, none⟩ = false := hb2.frozen 3
  have f4 : ((w.setCell ⟨R, 2, none⟩ (.string ⟨#[]⟩)).setCell ⟨R, 3, none⟩ (.string ⟨#[]⟩)).frozen? ⟨R, 4, none⟩ = false := hb3.frozen 4
  obtain ⟨v, c2⟩ : ∃ v, w.cell? ⟨R, 2, none⟩ = some v := ⟨_, (hb.cell 2).trans (Array.getElem?_eq_getElem (by omega))⟩
  obtain ⟨v3, c3⟩ : ∃ v, (w.setCell ⟨R, 2, none⟩ (.string ⟨#[]⟩)).cell? ⟨R, 3, none⟩ = some v := ⟨_, (hb2.cell 3).trans (Array.getElem?_eq_getElem (by simp; omega))⟩
  obtain ⟨v4, c4⟩ : ∃ v, ((w.setCell ⟨R, 2, none⟩ (.string ⟨#[]⟩)).setCell ⟨R, 3, none⟩ (.string ⟨#[]⟩)).cell? ⟨R, 4, none⟩ = some v := ⟨_, (hb3.cell 4).trans (Array.getElem?_eq_getElem (by simp; omega))⟩
  have hp1 : (w.setCell ⟨R, 2, none⟩ (.string ⟨#[]⟩)).cell? ⟨g, 0, none⟩ = some (.pointer (some ⟨R, 3, none⟩)) := (World.cell?_of_block (Below.heap_setCell _ _ _ _ hg)).trans hp
  have hq1 : ((w.setCell ⟨R, 2, none⟩ (.string ⟨#[]⟩)).setCell ⟨R, 3, none⟩ (.string ⟨#[]⟩)).cell? ⟨g, 1, none⟩ = some (.pointer (some ⟨R, 4, none⟩)) := (World.cell?_of_block (by rw [Below.heap_setCell _ _ _ _ hg, Below.heap_setCell _ _ _ _ hg])).trans hq
  clear hb hp hq hb2 hb3
  go_enter Tryz.func60, Tryz.ntmps60
  go_wp2_with fail
  generalize w.setCell ⟨R, 2, none⟩ (.string ⟨#[]⟩) = W at *
  generalize hV : W.setCell ⟨R, 3, none⟩ (.string ⟨#[]⟩) = V at *
  have HV := Lib.hid hV
  clear hV
  go_loopw [8] (fun i wr => ∃ k : Nat, k ≤ 2 ∧ i = .int .i64 k ∧ (k = 0 ∧ wr = W ∨ k = 1 ∧ wr = V ∨ k = 2 ∧ wr = V.setCell ⟨R, 4, none⟩ (.string ⟨#[]⟩))) (fun i _ => 2 - (intOf i).toNat)
  case atStart => exact ⟨0, by omega, rfl, .inl ⟨rfl, rfl⟩⟩
  case round =>
    obtain ⟨k, hk, rfl, ⟨rfl, rfl⟩ | ⟨rfl, rfl⟩ | ⟨rfl, rfl⟩⟩ := hrel
    · go_wp2_with fail
      go_roundw
      case rel => exact ⟨1, by omega, by go_num, by simpa using HV.out⟩
      case measure => simp [intOf]
    · go_wp2_with fail
      go_roundw
      case rel => exact ⟨2, by omega, by go_num, by simp⟩
      case measure => simp [intOf]
    · go_wp2_with fail
      go_end0
      exact ⟨rfl, rfl⟩
end Go.Proofs.YtinmiekbhoemjaaGreatDoor.Qry
end
section
set_option linter.unusedVariables false
namespace Go.Proofs.YtinmiekbhoemjaaGreatDoor.Qry
open Go.RowKit Words Tree QryP Kit Sch

/-- Whether a part occurs as it must. -/
def occB (under oc : Int) : Bool := if under = 8 then decide (1 ≤ oc ∧ oc ≤ 4) else decide (oc = 0)
theorem occ_cases (under oc : Int) : (occB under oc = true ∧ under = 8 ∧ 1 ≤ oc ∧ oc ≤ 4) ∨ (occB under oc = true ∧ ¬ under = 8 ∧ oc = 0) ∨ (occB under oc = false ∧ under = 8 ∧ oc < 1) ∨ (occB under oc = false ∧ under = 8 ∧ 4 < oc) ∨ (occB under oc = false ∧ ¬ under = 8 ∧ ¬ oc = 0) := by
  unfold occB
  by_cases h : under = 8
  · rw [if_pos h]
    by_cases h1 : 1 ≤ oc
    · by_cases h2 : oc ≤ 4
      · exact .inl ⟨decide_eq_true ⟨h1, h2⟩, h, h1, h2⟩
      · exact .inr (.inr (.inr (.inl ⟨decide_eq_false (fun x => h2 x.2), h, by omega⟩)))
    · exact .inr (.inr (.inl ⟨decide_eq_false (fun x => h1 x.1), h, by omega⟩))
  · rw [if_neg h]
    by_cases h1 : oc = 0
    · exact .inr (.inl ⟨decide_eq_true h1, h, h1⟩)
    · exact .inr (.inr (.inr (.inr ⟨decide_eq_false h1, h, h1⟩)))
theorem fin2 {w W w' : World} {o1 o2 : Obj} (e : W = (w.alloc o1).alloc o2) (h : Below W.heap.size W w') : Below w.heap.size w w' := by
  subst e
  exact (((Below.refl _ w).alloc (Nat.le_refl _) _).alloc (by simp) _).trans (h.mono (by simp; omega))
section
variable (kd oc : Int) (f t u : ByteArray) (L H K : Option Addr) (nl cl nh ch nk ck : Nat) (b op under : Int) (w : World)
set_option maxRecDepth 100000 in
set_option maxHeartbeats 4000000 in
theorem own_occ (ho : occB under oc = false) :
    Calls Tryz.prog 50 #[.agg #[.int .i64 kd, .int .i64 oc, .string f, .string t, .string u, .slice L nl cl, .slice H nh ch, .int .i64 b, .int .i64 op, .slice K nk ck], .int .i64 under] w (AnsB false w) := by
  rcases occ_cases under oc with ⟨h, _⟩ | ⟨h, _⟩ | ⟨_, h1, h2⟩ | ⟨_, h1, h2⟩ | ⟨_, h1, h2⟩
  · rw [h] at ho; cases ho
  · rw [h] at ho; cases ho
  · subst h1
    have d1 : decide (oc < 1) = true := decide_eq_true h2
    clear ho
    go_enter Tryz.func50, Tryz.ntmps50
    go_wp2_with fail
    go_ret
    exact ⟨rfl, (Below.refl _ w).alloc (Nat.le_refl _) _⟩
  · subst h1
    have d1 : decide (oc < 1) = false := decide_eq_false (by omega)
    have d2 : decide (4 < oc) = true := decide_eq_true h2
    clear ho
    go_enter Tryz.func50, Tryz.ntmps50
    go_wp2_with fail
    go_ret
    exact ⟨rfl, (Below.refl _ w).alloc (Nat.le_refl _) _⟩
  · have d1 : (under == 8) = false := by simpa using h1
    have d2 : (under != 8) = true := by simpa using h1
    have d3 : (oc != 0) = true := by simpa using h2
    clear ho
    go_enter Tryz.func50, Tryz.ntmps50
    go_wp2_with fail
    go_ret
    exact ⟨rfl, (Below.refl _ w).alloc (Nat.le_refl _) _⟩
set_option maxRecDepth 100000 in
set_option maxHeartbeats 4000000 in
theorem own_12 (ho : occB under oc = true) (hk : kd = 1 ∨ kd = 2) :
    Calls Tryz.prog 50 #[.agg #[.int .i64 kd, .int .i64 oc, .string f, .string t, .string u, .slice L nl cl, .slice H nh ch, .int .i64 b, .int .i64 op, .slice K nk ck], .int .i64 under] w (AnsB (emptyB f t u nl nh b op nk) w) := by
  have hmf : ∀ (fn : Fn) (first cap : Array Value) (w : World), (Instr.makeFunc fn first cap).run Tryz.prog w = .ok (.func fn first cap) w := fun _ _ _ _ => rfl
  have HE := Lib.hid (fun W => empty_any 0 0 f t u L H K nl cl nh ch nk ck b op W)
  generalize emptyB f t u nl nh b op nk = r at *
  rcases occ_cases under oc with ⟨_, h1, h2, h3⟩ | ⟨_, h1, h2⟩ | ⟨h, _⟩ | ⟨h, _⟩ | ⟨h, _⟩
  · subst h1
    have d1 : decide (oc < 1) = false := decide_eq_false (by omega)
    have d2 : decide (4 < oc) = false := decide_eq_false (by omega)
    clear ho
    rcases hk with rfl | rfl
    all_goals
      go_enter Tryz.func50, Tryz.ntmps50
      go_wp2_with fail
      refine (HE.out _).mono ?_
      rintro e w' ⟨rfl, hb⟩
      have HB := Lib.hid (fin2 rfl hb)
      clear hb
      go_wp2_with fail
      go_ret
      exact ⟨rfl, HB.out⟩
  · subst h2
    have d1 : (under == 8) = false := by simpa using h1
    have d2 : (under != 8) = true := by simpa using h1
    clear ho
    rcases hk with rfl | rfl
    all_goals
      go_enter Tryz.func50, Tryz.ntmps50
      go_wp2_with fail
      refine (HE.out _).mono ?_
      rintro e w' ⟨rfl, hb⟩
      have HB := Lib.hid (fin2 rfl hb)
      clear hb
      go_wp2_with fail
      go_ret
      exact ⟨rfl, HB.out⟩
  all_goals (rw [h] at ho; cases ho)
end
end Go.Proofs.YtinmiekbhoemjaaGreatDoor.Qry
end
section
set_option linter.unusedVariables false
namespace Go.Proofs.YtinmiekbhoemjaaGreatDoor.Qry
open Go.RowKit Words Tree QryP Kit Sch SchP

theorem blk_mid (w : World) (o1 : Obj) (cs ds : Array Value) (t t' : TypeId) : Blk (((w.alloc o1).alloc (.cells cs t)).alloc (.cells ds t')) (w.heap.size + 1) t cs := by
  have := (Blk.new (w.alloc o1) t cs).alloc (.cells ds t')
  rwa [World.size_alloc] at this
theorem blk_two (w : World) (o1 : Obj) (cs : Array Value) (t : TypeId) : Blk ((w.alloc o1).alloc (.cells cs t)) (w.heap.size + 1) t cs := by
  have := Blk.new (w.alloc o1) t cs
  rwa [World.size_alloc] at this
theorem fin3 {w W w' : World} {o1 o2 o3 : Obj} (e : W = ((w.alloc o1).alloc o2).alloc o3) (h : Below W.heap.size W w') : Below w.heap.size w w' := by
  subst e
  exact ((((Below.refl _ w).alloc (Nat.le_refl _) _).alloc (by simp) _).alloc (by simp; omega) _).trans (h.mono (by simp; omega))
theorem tenB {w : World} {g : Nat} {t : TypeId} {v0 v1 v2 v3 v4 v5 v6 v7 v8 v9 : Value} (h : Blk w g t #[v0, v1, v2, v3, v4, v5, v6, v7, v8, v9]) :
    w.cell? ⟨g, 0, none⟩ = some v0 ∧ w.cell? ⟨g, 1, none⟩ = some v1 ∧ w.cell? ⟨g, 2, none⟩ = some v2 ∧ w.cell? ⟨g, 3, none⟩ = some v3 ∧ w.cell? ⟨g, 4, none⟩ = some v4 ∧ w.cell? ⟨g, 5, none⟩ = some v5 ∧ w.cell? ⟨g, 6, none⟩ = some v6 ∧ w.cell? ⟨g, 7, none⟩ = some v7 ∧ w.cell? ⟨g, 8, none⟩ = some v8 ∧ w.cell? ⟨g, 9, none⟩ = some v9 :=
  ⟨h.cell 0, h.cell 1, h.cell 2, h.cell 3, h.cell 4, h.cell 5, h.cell 6, h.cell 7, h.cell 8, h.cell 9⟩
section
variable (kd oc : Int) (f t u : ByteArray) (L H K : Option Addr) (nl cl nh ch nk ck : Nat) (b op under : Int) (w : World)
set_option maxRecDepth 100000 in
set_option maxHeartbeats 8000000 in
theorem own_345_0 (ho : occB under oc = true ∧ under = 8 ∧ 1 ≤ oc ∧ oc ≤ 4) (hk : kd = 3 ∨ kd = 4 ∨ kd = 5) (hf : f.size ≤ 140737488351232) :
    Calls Tryz.prog 50 #[.agg #[.int .i64 kd, .int .i64 oc, .string f, .string t, .string u, .slice L nl cl, .slice H nh ch, .int .i64 b, .int .i64 op, .slice K nk ck], .int .i64 under] w (AnsB (nameB f && emptyB ⟨#[]⟩ ⟨#[]⟩ u nl nh b op nk) w) := by
  have hmf : ∀ (fn : Fn) (first cap : Array Value) (w : World), (Instr.makeFunc fn first cap).run Tryz.prog w = .ok (.func fn first cap) w := fun _ _ _ _ => rfl
  have HE := Lib.hid (fun W => empty_any 0 0 ⟨#[]⟩ ⟨#[]⟩ u L H K nl cl nh ch nk ck b op W)
  generalize emptyB ⟨#[]⟩ ⟨#[]⟩ u nl nh b op nk = r at *
  have HN := Lib.hid (fun W => name_any f W hf)
  generalize nameB f = nb at *
  obtain ⟨_, h1, h2, h3⟩ := ho
  subst h1
  have d1 : decide (oc < 1) = false := decide_eq_false (by omega)
  have d2 : decide (4 < oc) = false := decide_eq_false (by omega)
  rcases hk with rfl | rfl | rfl
  all_goals
    go_enter Tryz.func50, Tryz.ntmps50
    go_wp2_with fail
    refine (named1 (w.heap.size + 1) (w.heap.size + 1 + 1) _ _ (blk_mid w _ _ _ _ _) rfl (by go_simp) (by omega)).mono ?_
    rintro e w1 ⟨rfl, rfl⟩
    go_wp2_with fail
    refine (HN.out _).mono ?_
    rintro e V ⟨rfl, hb⟩
    have HB := Lib.hid (fin3 rfl hb)
    have HZ := Lib.hid hb.size
    obtain ⟨c0, c1, c2, c3, c4, c5, c6, c7, c8, c9⟩ := tenB ((blk_mid w _ _ _ _ _).below hb (blk_mid w _ _ _ _ _).lt)
    clear hb
    cases nb
    · go_wp2_with fail
      go_ret
      exact ⟨by simp, HB.out⟩
    · go_wp2_with fail
      refine (HE.out _).mono ?_
      rintro e V2 ⟨rfl, hb⟩
      have HB2 := Lib.hid (HB.out.trans (hb.mono HB.out.size))
      clear hb c0 c1 c2 c3 c4 c5 c6 c7 c8 c9
      go_wp2_with fail
      go_ret
      exact ⟨by simp, HB2.out⟩
set_option maxRecDepth 100000 in
set_option maxHeartbeats 8000000 in
theorem own_345_1 (ho : occB under oc = true ∧ ¬ under = 8 ∧ oc = 0) (hk : kd = 3 ∨ kd = 4 ∨ kd = 5) (hf : f.size ≤ 140737488351232) :
    Calls Tryz.prog 50 #[.agg #[.int .i64 kd, .int .i64 oc, .string f, .string t, .string u, .slice L nl cl, .slice H nh ch, .int .i64 b, .int .i64 op, .slice K nk ck], .int .i64 under] w (AnsB (nameB f && emptyB ⟨#[]⟩ ⟨#[]⟩ u nl nh b op nk) w) := by
  have hmf : ∀ (fn : Fn) (first cap : Array Value) (w : World), (Instr.makeFunc fn first cap).run Tryz.prog w = .ok (.func fn first cap) w := fun _ _ _ _ => rfl
  have HE := Lib.hid (fun W => empty_any 0 0 ⟨#[]⟩ ⟨#[]⟩ u L H K nl cl nh ch nk ck b op W)
  generalize emptyB ⟨#[]⟩ ⟨#[]⟩ u nl nh b op nk = r at *
  have HN := Lib.hid (fun W => name_any f W hf)
  generalize nameB f = nb at *
  obtain ⟨_, h1, h2⟩ := ho
  subst h2
  have d1 : (under == 8) = false := by simpa using h1
  have d2 : (under != 8) = true := by simpa using h1
  rcases hk with rfl | rfl | rfl
  all_goals
    go_enter Tryz.func50, Tryz.ntmps50
    go_wp2_with fail
    refine (named1 (w.heap.size + 1) (w.heap.size + 1 + 1) _ _ (blk_mid w _ _ _ _ _) rfl (by go_simp) (by omega)).mono ?_
    rintro e w1 ⟨rfl, rfl⟩
    go_wp2_with fail
    refine (HN.out _).mono ?_
    rintro e V ⟨rfl, hb⟩
    have HB := Lib.hid (fin3 rfl hb)
    have HZ := Lib.hid hb.size
    obtain ⟨c0, c1, c2, c3, c4, c5, c6, c7, c8, c9⟩ := tenB ((blk_mid w _ _ _ _ _).below hb (blk_mid w _ _ _ _ _).lt)
    clear hb
    cases nb
    · go_wp2_with fail
      go_ret
      exact ⟨by simp, HB.out⟩
    · go_wp2_with fail
      refine (HE.out _).mono ?_
      rintro e V2 ⟨rfl, hb⟩
      have HB2 := Lib.hid (HB.out.trans (hb.mono HB.out.size))
      clear hb c0 c1 c2 c3 c4 c5 c6 c7 c8 c9
      go_wp2_with fail
      go_ret
      exact ⟨by simp, HB2.out⟩
set_option maxRecDepth 100000 in
set_option maxHeartbeats 8000000 in
theorem own_6_0 (ho : occB under oc = true ∧ under = 8 ∧ 1 ≤ oc ∧ oc ≤ 4) (hk : kd = 6) (hf : f.size ≤ 140737488351232) :
    Calls Tryz.prog 50 #[.agg #[.int .i64 kd, .int .i64 oc, .string f, .string t, .string u, .slice L nl cl, .slice H nh ch, .int .i64 b, .int .i64 op, .slice K nk ck], .int .i64 under] w (AnsB (nameB f && emptyB ⟨#[]⟩ ⟨#[]⟩ ⟨#[]⟩ nl nh b op nk) w) := by
  have hmf : ∀ (fn : Fn) (first cap : Array Value) (w : World), (Instr.makeFunc fn first cap).run Tryz.prog w = .ok (.func fn first cap) w := fun _ _ _ _ => rfl
  have HE := Lib.hid (fun W => empty_any 0 0 ⟨#[]⟩ ⟨#[]⟩ ⟨#[]⟩ L H K nl cl nh ch nk ck b op W)
  generalize emptyB ⟨#[]⟩ ⟨#[]⟩ ⟨#[]⟩ nl nh b op nk = r at *
  have HN := Lib.hid (fun W => name_any f W hf)
  generalize nameB f = nb at *
  obtain ⟨_, h1, h2, h3⟩ := ho
  subst h1
  have d1 : decide (oc < 1) = false := decide_eq_false (by omega)
  have d2 : decide (4 < oc) = false := decide_eq_false (by omega)
  subst hk
  all_goals
    go_enter Tryz.func50, Tryz.ntmps50
    go_wp2_with fail
    refine (named2 (w.heap.size + 1) (w.heap.size + 1 + 1) _ _ (blk_mid w _ _ _ _ _) rfl (by go_simp) (by go_simp) (by omega)).mono ?_
    rintro e w1 ⟨rfl, rfl⟩
    go_wp2_with fail
    refine (HN.out _).mono ?_
    rintro e V ⟨rfl, hb⟩
    have HB := Lib.hid (fin3 rfl hb)
    have HZ := Lib.hid hb.size
    obtain ⟨c0, c1, c2, c3, c4, c5, c6, c7, c8, c9⟩ := tenB ((blk_mid w _ _ _ _ _).below hb (blk_mid w _ _ _ _ _).lt)
    clear hb
    cases nb
    · go_wp2_with fail
      go_ret
      exact ⟨by simp, HB.out⟩
    · go_wp2_with fail
      refine (HE.out _).mono ?_
      rintro e V2 ⟨rfl, hb⟩
      have HB2 := Lib.hid (HB.out.trans (hb.mono HB.out.size))
      clear hb c0 c1 c2 c3 c4 c5 c6 c7 c8 c9
      go_wp2_with fail
      go_ret
      exact ⟨by simp, HB2.out⟩
set_option maxRecDepth 100000 in
set_option maxHeartbeats 8000000 in
theorem own_6_1 (ho : occB under oc = true ∧ ¬ under = 8 ∧ oc = 0) (hk : kd = 6) (hf : f.size ≤ 140737488351232) :
    Calls Tryz.prog 50 #[.agg #[.int .i64 kd, .int .i64 oc, .string f, .string t, .string u, .slice L nl cl, .slice H nh ch, .int .i64 b, .int .i64 op, .slice K nk ck], .int .i64 under] w (AnsB (nameB f && emptyB ⟨#[]⟩ ⟨#[]⟩ ⟨#[]⟩ nl nh b op nk) w) := by
  have hmf : ∀ (fn : Fn) (first cap : Array Value) (w : World), (Instr.makeFunc fn first cap).run Tryz.prog w = .ok (.func fn first cap) w := fun _ _ _ _ => rfl
  have HE := Lib.hid (fun W => empty_any 0 0 ⟨#[]⟩ ⟨#[]⟩ ⟨#[]⟩ L H K nl cl nh ch nk ck b op W)
  generalize emptyB ⟨#[]⟩ ⟨#[]⟩ ⟨#[]⟩ nl nh b op nk = r at *
  have HN := Lib.hid (fun W => name_any f W hf)
  generalize nameB f = nb at *
  obtain ⟨_, h1, h2⟩ := ho
  subst h2
  have d1 : (under == 8) = false := by simpa using h1
  have d2 : (under != 8) = true := by simpa using h1
  subst hk
  all_goals
    go_enter Tryz.func50, Tryz.ntmps50
    go_wp2_with fail
    refine (named2 (w.heap.size + 1) (w.heap.size + 1 + 1) _ _ (blk_mid w _ _ _ _ _) rfl (by go_simp) (by go_simp) (by omega)).mono ?_
    rintro e w1 ⟨rfl, rfl⟩
    go_wp2_with fail
    refine (HN.out _).mono ?_
    rintro e V ⟨rfl, hb⟩
    have HB := Lib.hid (fin3 rfl hb)
    have HZ := Lib.hid hb.size
    obtain ⟨c0, c1, c2, c3, c4, c5, c6, c7, c8, c9⟩ := tenB ((blk_mid w _ _ _ _ _).below hb (blk_mid w _ _ _ _ _).lt)
    clear hb
    cases nb
    · go_wp2_with fail
      go_ret
      exact ⟨by simp, HB.out⟩
    · go_wp2_with fail
      refine (HE.out _).mono ?_
      rintro e V2 ⟨rfl, hb⟩
      have HB2 := Lib.hid (HB.out.trans (hb.mono HB.out.size))
      clear hb c0 c1 c2 c3 c4 c5 c6 c7 c8 c9
      go_wp2_with fail
      go_ret
      exact ⟨by simp, HB2.out⟩
set_option maxRecDepth 100000 in
set_option maxHeartbeats 8000000 in
theorem own_8_0 (ho : occB under oc = true ∧ under = 8 ∧ 1 ≤ oc ∧ oc ≤ 4) (hk : kd = 8) :
    Calls Tryz.prog 50 #[.agg #[.int .i64 kd, .int .i64 oc, .string f, .string t, .string u, .slice L nl cl, .slice H nh ch, .int .i64 b, .int .i64 op, .slice K nk ck], .int .i64 under] w (AnsB (emptyB f t u nl nh b op 0) w) := by
  have hmf : ∀ (fn : Fn) (first cap : Array Value) (w : World), (Instr.makeFunc fn first cap).run Tryz.prog w = .ok (.func fn first cap) w := fun _ _ _ _ => rfl
  have HE := Lib.hid (fun W => empty_any 0 0 f t u L H none nl cl nh ch 0 0 b op W)
  generalize emptyB f t u nl nh b op 0 = r at *
  obtain ⟨_, h1, h2, h3⟩ := ho
  subst h1
  have d1 : decide (oc < 1) = false := decide_eq_false (by omega)
  have d2 : decide (4 < oc) = false := decide_eq_false (by omega)
  subst hk
  all_goals
    go_enter Tryz.func50, Tryz.ntmps50
    go_wp2_with fail
    refine (HE.out _).mono ?_
    rintro e V ⟨rfl, hb⟩
    have HB := Lib.hid (fin2 rfl hb)
    clear hb
    go_wp2_with fail
    go_ret
    exact ⟨rfl, HB.out⟩
set_option maxRecDepth 100000 in
set_option maxHeartbeats 8000000 in
theorem own_8_1 (ho : occB under oc = true ∧ ¬ under = 8 ∧ oc = 0) (hk : kd = 8) :
    Calls Tryz.prog 50 #[.agg #[.int .i64 kd, .int .i64 oc, .string f, .string t, .string u, .slice L nl cl, .slice H nh ch, .int .i64 b, .int .i64 op, .slice K nk ck], .int .i64 under] w (AnsB (emptyB f t u nl nh b op 0) w) := by
  have hmf : ∀ (fn : Fn) (first cap : Array Value) (w : World), (Instr.makeFunc fn first cap).run Tryz.prog w = .ok (.func fn first cap) w := fun _ _ _ _ => rfl
  have HE := Lib.hid (fun W => empty_any 0 0 f t u L H none nl cl nh ch 0 0 b op W)
  generalize emptyB f t u nl nh b op 0 = r at *
  obtain ⟨_, h1, h2⟩ := ho
  subst h2
  have d1 : (under == 8) = false := by simpa using h1
  have d2 : (under != 8) = true := by simpa using h1
  subst hk
  all_goals
    go_enter Tryz.func50, Tryz.ntmps50
    go_wp2_with fail
    refine (HE.out _).mono ?_
    rintro e V ⟨rfl, hb⟩
    have HB := Lib.hid (fin2 rfl hb)
    clear hb
    go_wp2_with fail
    go_ret
    exact ⟨rfl, HB.out⟩
end
end Go.Proofs.YtinmiekbhoemjaaGreatDoor.Qry
end
