/- Contract: the parser's query, whatever stands there. Contract: query.Parse and its deferred closure. -/
import Derived.Test.YtinmiekbhoemjaaDoorQryPar17
import Derived.Recover
section
set_option linter.unusedVariables false
namespace Go.Proofs.YtinmiekbhoemjaaDoor.Qry
open Go.RowKit Words Tree QryP Kit Sch SchP Owned

theorem query_any (B : Nat) (s : ByteArray) (hs : s.size ≤ 4096) : ∀ (d above : Nat), above + d = 6 → QueryC B s above := by
  intro d
  induction d with
  | zero =>
    intro above ha gp k w h hB hT
    obtain rfl : above = 6 := by omega
    cases hK : kindS (6 - 6) (rem s k) with
    | error ec =>
      have h1 := query_e B s hs 6 (by omega) ec gp k w h hB hT hK
      have e : queryS numT parT (6 - 6) (rem s k) = .error ec := by
        show queryS numT parT 0 (rem s k) = _
        rw [query_zero]
        replace hK : kindS 0 (rem s k) = .error ec := hK
        rw [hK]
      rw [e]; exact h1
    | ok p => exact (kind_zero hK).elim
  | succ d ih =>
    intro above ha gp k w h hB hT
    have hQ := ih (above + 1) (by omega)
    have hd : 6 - above = (5 - above) + 1 := by omega
    cases hK : kindS (6 - above) (rem s k) with
    | error ec =>
      have h1 := query_e B s hs above (by omega) ec gp k w h hB hT hK
      have e : queryS numT parT (6 - above) (rem s k) = .error ec := by rw [hd, query_unf, ← hd, hK]
      rw [e]; exact h1
    | ok p =>
      obtain ⟨n, r1⟩ := p
      have hn := (kind_fine (6 - above) (rem s k)).2 n r1 hK
      have e : queryS numT parT (6 - above) (rem s k) = if n = 1 ∨ n = 2 then .ok (.mk n 0 emp emp emp [] [] 0 0 [], r1) else bodyW (5 - above) n r1 := by rw [hd, query_unf, ← hd, hK]
      rw [e]
      by_cases h12 : n = 1 ∨ n = 2
      · rw [if_pos h12]; exact query_1 B s hs above (by omega) n r1 gp k w h hB hT hK h12
      · rw [if_neg h12]
        by_cases h37 : n ≤ 7
        · exact query_o B s hs above (by omega) n r1 gp k w h hB hT hK ⟨by omega, h37⟩
        · have h3 : n = 8 ∨ n = 9 ∨ n = 10 := by omega
          rcases h3 with h8 | h9 | h10
          · exact query_8 B s hs above (by omega) n r1 gp k w h hB hT hK (by omega) hQ h8
          · exact query_9 B s hs above (by omega) n r1 gp k w h hB hT hK (by omega) hQ h9
          · exact query_10 B s hs above (by omega) n r1 gp k w h hB hT hK (by omega) hQ h10
end Go.Proofs.YtinmiekbhoemjaaDoor.Qry
end
section
set_option linter.unusedVariables false
namespace Go.Proofs.YtinmiekbhoemjaaDoor.Qry
open Go.RowKit Words Tree QryP Kit Sch SchP Owned

theorem assert_fault (W : World) (v : Value) : (Instr.typeAssert (.iface 51 v) 20 51 true).run Tryd.prog W = .ok (.tuple #[v, .bool true]) W := by kernel_rfl
theorem assert_none (W : World) : (Instr.typeAssert .nilIface 20 51 true).run Tryd.prog W = .ok (.tuple #[.agg #[.int .i64 0, .int .i64 0], .bool false]) W := by kernel_rfl
theorem nil_nil (W : World) : (Go.binOp .neq 20 .nilIface .nilIface).run Tryd.prog W = .ok (.bool false) W := by kernel_rfl
/-- The three results' boxes are written. -/
theorem boxes_put {w : World} {B g0 g1 g2 : Nat} {tq ta te : TypeId} {c0 c1 c2 c3 c4 c5 c6 c7 c8 c9 x y : Value} (hq : Blk w g0 tq #[c0, c1, c2, c3, c4, c5, c6, c7, c8, c9]) (ha : Blk w g1 ta #[x]) (he : Blk w g2 te #[y]) (h1 : g0 < g1) (h2 : g1 < g2) (hB : B ≤ g0) (v0 v1 v2 v3 v4 v5 v6 v7 v8 v9 a e : Value) :
    Blk ((((((((((((w.setCell ⟨g0, 0, none⟩ v0).setCell ⟨g0, 1, none⟩ v1).setCell ⟨g0, 2, none⟩ v2).setCell ⟨g0, 3, none⟩ v3).setCell ⟨g0, 4, none⟩ v4).setCell ⟨g0, 5, none⟩ v5).setCell ⟨g0, 6, none⟩ v6).setCell ⟨g0, 7, none⟩ v7).setCell ⟨g0, 8, none⟩ v8).setCell ⟨g0, 9, none⟩ v9).setCell ⟨g1, 0, none⟩ a).setCell ⟨g2, 0, none⟩ e) g0 tq #[v0, v1, v2, v3, v4, v5, v6, v7, v8, v9] ∧ Blk ((((((((((((w.setCell ⟨g0, 0, none⟩ v0).setCell ⟨g0, 1, none⟩ v1).setCell ⟨g0, 2, none⟩ v2).setCell ⟨g0, 3, none⟩ v3).setCell ⟨g0, 4, none⟩ v4).setCell ⟨g0, 5, none⟩ v5).setCell ⟨g0, 6, none⟩ v6).setCell ⟨g0, 7, none⟩ v7).setCell ⟨g0, 8, none⟩ v8).setCell ⟨g0, 9, none⟩ v9).setCell ⟨g1, 0, none⟩ a).setCell ⟨g2, 0, none⟩ e) g1 ta #[a] ∧ Blk ((((((((((((w.setCell ⟨g0, 0, none⟩ v0).setCell ⟨g0, 1, none⟩ v1).setCell ⟨g0, 2, none⟩ v2).setCell ⟨g0, 3, none⟩ v3).setCell ⟨g0, 4, none⟩ v4).setCell ⟨g0, 5, none⟩ v5).setCell ⟨g0, 6, none⟩ v6).setCell ⟨g0, 7, none⟩ v7).setCell ⟨g0, 8, none⟩ v8).setCell ⟨g0, 9, none⟩ v9).setCell ⟨g1, 0, none⟩ a).setCell ⟨g2, 0, none⟩ e) g2 te #[e] ∧ Below B w ((((((((((((w.setCell ⟨g0, 0, none⟩ v0).setCell ⟨g0, 1, none⟩ v1).setCell ⟨g0, 2, none⟩ v2).setCell ⟨g0, 3, none⟩ v3).setCell ⟨g0, 4, none⟩ v4).setCell ⟨g0, 5, none⟩ v5).setCell ⟨g0, 6, none⟩ v6).setCell ⟨g0, 7, none⟩ v7).setCell ⟨g0, 8, none⟩ v8).setCell ⟨g0, 9, none⟩ v9).setCell ⟨g1, 0, none⟩ a).setCell ⟨g2, 0, none⟩ e) := by
  have hb := set10_blk hq v0 v1 v2 v3 v4 v5 v6 v7 v8 v9
  have hg := set10_grown w g0 v0 v1 v2 v3 v4 v5 v6 v7 v8 v9
  have ha1 := ha.grown hg (fun e => by injection e with e; omega)
  have he1 := he.grown hg (fun e => by injection e with e; omega)
  have hB1 := below_grown (B := B) hg (by have := hq.lt; omega) hB
  generalize ((((((((((w.setCell ⟨g0, 0, none⟩ v0).setCell ⟨g0, 1, none⟩ v1).setCell ⟨g0, 2, none⟩ v2).setCell ⟨g0, 3, none⟩ v3).setCell ⟨g0, 4, none⟩ v4).setCell ⟨g0, 5, none⟩ v5).setCell ⟨g0, 6, none⟩ v6).setCell ⟨g0, 7, none⟩ v7).setCell ⟨g0, 8, none⟩ v8).setCell ⟨g0, 9, none⟩ v9) = W at *
  exact ⟨(hb.far (by show g0 ≠ g1; omega) _).far (by show g0 ≠ g2; omega) _, (ha1.set_ 0 a).far (by show g1 ≠ g2; omega) _, (he1.far (by show g2 ≠ g1; omega) _).set_ 0 e, (hB1.setCell (by show B ≤ g1; omega) _).setCell (by show B ≤ g2; omega) _⟩
set_option maxRecDepth 100000 in
set_option maxHeartbeats 16000000 in
theorem catch_fault (g0 g1 g2 : Nat) (k c : Int) (older : List PanicEntry) (w : World) {c0 c1 c2 c3 c4 c5 c6 c7 c8 c9 x y : Value} (hq : Blk w g0 25 #[c0, c1, c2, c3, c4, c5, c6, c7, c8, c9]) (ha : Blk w g1 3 #[x]) (he : Blk w g2 32 #[y]) (h1 : g0 < g1) (h2 : g1 < g2) :
    CallsD Tryd.prog 31 #[.pointer (some ⟨g0, 0, none⟩), .pointer (some ⟨g1, 0, none⟩), .pointer (some ⟨g2, 0, none⟩)] (.panicking ({ v := faultV k c, recovered := false } :: older)) w fun e u' w' =>
      e = .returned (.tuple #[]) ∧ u' = .panicking ({ v := faultV k c, recovered := true } :: older) ∧ Blk w' g0 25 zeroQ ∧ Blk w' g1 3 #[.int .i64 k] ∧ Blk w' g2 32 #[.int .i64 c] ∧ Below g0 w w' := by
  refine callsD_of_wpS Tryd.func31 rfl fun c₀ cs hu => ?_
  simp only [Tryd.ntmps31, List.size_toArray, List.length_cons, List.length_nil, Nat.reduceAdd, Nat.reduceSub, Array.replicate_succ, Array.replicate_zero, List.push_toArray, List.append_toArray, List.nil_append, List.cons_append]
  apply wpS_seq
  apply wpS_region
  simp [wpOpsS, go_sem, recoverD, hu, Exit.thenS, faultV]
  refine wpS_of_wp ?_
  have h01 := assert_fault w (.agg #[.int .i64 k, .int .i64 c])
  have hgc := hq.lt
  have hga := ha.lt
  have hge := he.lt
  have HQ := Lib.hid hq; have HA := Lib.hid ha; have HE := Lib.hid he
  clear hq ha he
  go_upto_region 3 with fail
  have hb1 : Below w.heap.size w (w.alloc (.cells #[.int .i64 k, .int .i64 c] 51)) := (Below.refl _ w).alloc (Nat.le_refl _) _
  have HQ1 := Lib.hid (HQ.out.below hb1 hgc)
  have HA1 := Lib.hid (HA.out.below hb1 hga)
  have HE1 := Lib.hid (HE.out.below hb1 hge)
  have HF1 := Lib.hid (Blk.new w 51 #[.int .i64 k, .int .i64 c])
  have HB1 := Lib.hid (Below.mono hb1 (show g0 ≤ w.heap.size by omega))
  clear hb1 HQ HA HE
  generalize w.alloc (.cells #[.int .i64 k, .int .i64 c] 51) = w1 at *
  generalize w.heap.size = gf at *
  have f0 : w1.cell? ⟨gf, 0, none⟩ = some (.int .i64 k) := HF1.out.cell 0
  have f1 : w1.cell? ⟨gf, 1, none⟩ = some (.int .i64 c) := HF1.out.cell 1
  have a0 : w1.cell? ⟨g1, 0, none⟩ = some x := HA1.out.cell 0
  have e0 : w1.cell? ⟨g2, 0, none⟩ = some y := HE1.out.cell 0
  have za : w1.frozen? ⟨g1, 0, none⟩ = false := HA1.out.frozen 0
  have ze : w1.frozen? ⟨g2, 0, none⟩ = false := HE1.out.frozen 0
  have n1 : g0 ≠ g1 := by omega
  have n2 : g0 ≠ g2 := by omega
  have n3 : g1 ≠ g2 := by omega
  have n4 : g0 ≠ gf := by omega
  have n5 : g1 ≠ gf := by omega
  have n6 : g2 ≠ gf := by omega
  have q0 : w1.cell? ⟨g0, 0, none⟩ = some c0 := HQ1.out.cell 0
  have q1 : w1.cell? ⟨g0, 1, none⟩ = some c1 := HQ1.out.cell 1
  have q2 : w1.cell? ⟨g0, 2, none⟩ = some c2 := HQ1.out.cell 2
  have q3 : w1.cell? ⟨g0, 3, none⟩ = some c3 := HQ1.out.cell 3
  have q4 : w1.cell? ⟨g0, 4, none⟩ = some c4 := HQ1.out.cell 4
  have q5 : w1.cell? ⟨g0, 5, none⟩ = some c5 := HQ1.out.cell 5
  have q6 : w1.cell? ⟨g0, 6, none⟩ = some c6 := HQ1.out.cell 6
  have q7 : w1.cell? ⟨g0, 7, none⟩ = some c7 := HQ1.out.cell 7
  have q8 : w1.cell? ⟨g0, 8, none⟩ = some c8 := HQ1.out.cell 8
  have q9 : w1.cell? ⟨g0, 9, none⟩ = some c9 := HQ1.out.cell 9
  have z0 : w1.frozen? ⟨g0, 0, none⟩ = false := HQ1.out.frozen 0
  have z1 : w1.frozen? ⟨g0, 1, none⟩ = false := HQ1.out.frozen 1
  have z2 : w1.frozen? ⟨g0, 2, none⟩ = false := HQ1.out.frozen 2
  have z3 : w1.frozen? ⟨g0, 3, none⟩ = false := HQ1.out.frozen 3
  have z4 : w1.frozen? ⟨g0, 4, none⟩ = false := HQ1.out.frozen 4
  have z5 : w1.frozen? ⟨g0, 5, none⟩ = false := HQ1.out.frozen 5
  have z6 : w1.frozen? ⟨g0, 6, none⟩ = false := HQ1.out.frozen 6
  have z7 : w1.frozen? ⟨g0, 7, none⟩ = false := HQ1.out.frozen 7
  have z8 : w1.frozen? ⟨g0, 8, none⟩ = false := HQ1.out.frozen 8
  have z9 : w1.frozen? ⟨g0, 9, none⟩ = false := HQ1.out.frozen 9
  go_region
  obtain ⟨b0, b1, b2, b3⟩ := boxes_put HQ1.out HA1.out HE1.out h1 h2 (Nat.le_refl g0) (.int .i64 0) (.int .i64 0) (.string ⟨#[]⟩) (.string ⟨#[]⟩) (.string ⟨#[]⟩) (.slice none 0 0) (.slice none 0 0) (.int .i64 0) (.int .i64 0) (.slice none 0 0) (.int .i64 k) (.int .i64 c)
  exact ⟨rfl, _, rfl, _, results_none rfl _ _ _, rfl, rfl, b0.drew, b1.drew, b2.drew, HB1.out.trans (below_drewN b3 1)⟩
set_option maxRecDepth 100000 in
set_option maxHeartbeats 1000000 in
theorem catch_idle (g0 g1 g2 : Nat) (w : World) :
    CallsD Tryd.prog 31 #[.pointer (some ⟨g0, 0, none⟩), .pointer (some ⟨g1, 0, none⟩), .pointer (some ⟨g2, 0, none⟩)] .returning w fun e u' w' => e = .returned (.tuple #[]) ∧ u' = .returning ∧ Below w.heap.size w w' := by
  refine callsD_of_wpS Tryd.func31 rfl fun c₀ cs hu => ?_
  simp only [Tryd.ntmps31, List.size_toArray, List.length_cons, List.length_nil, Nat.reduceAdd, Nat.reduceSub, Array.replicate_succ, Array.replicate_zero, List.push_toArray, List.append_toArray, List.nil_append, List.cons_append]
  apply wpS_seq
  apply wpS_region
  simp [wpOpsS, go_sem, recoverD, hu, Exit.thenS]
  refine wpS_of_wp ?_
  have h01 := assert_none w
  have hb1 : Below w.heap.size w (w.alloc (.cells #[.int .i64 0, .int .i64 0] 51)) := (Below.refl _ w).alloc (Nat.le_refl _) _
  have h02 := nil_nil (w.alloc (.cells #[.int .i64 0, .int .i64 0] 51))
  go_wp2_with fail
  exact ⟨rfl, .returning, by rw [← hu], _, results_none rfl _ _ _, rfl, rfl, hb1⟩
/-- Three results that lie in boxes. -/
theorem results_cell3 {P : Program} {fn : Func} {p q r : Tmp} {ty ta te : TypeId} (h : fn.results = #[.cell p ty, .cell q ta, .cell r te]) (tmps : Array Value) (w : World) (g0 g1 g2 : Nat) (cs : Array Value) (x y : Value) (d : TypeDesc)
    (hp : tmps.getD p undef = .pointer (some ⟨g0, 0, none⟩)) (hq : tmps.getD q undef = .pointer (some ⟨g1, 0, none⟩)) (hr : tmps.getD r undef = .pointer (some ⟨g2, 0, none⟩)) (b0 : Blk w g0 ty cs) (b1 : Blk w g1 ta #[x]) (b2 : Blk w g2 te #[y])
    (hu : P.underlying ty = some d) (hd : (match d with | .struct _ | .array _ _ => true | _ => false) = true) (hi : (P.info? ty).map (·.size) = some cs.size)
    (h1 : (Go.loadVar ta ⟨g1, 0, none⟩).run P w = .ok x w) (h2 : (Go.loadVar te ⟨g2, 0, none⟩).run P w = .ok y w) :
    (results fn tmps).run P w = .ok (.tuple #[.agg cs, x, y]) w := by
  have hp' : tmps[p]?.getD undef = .pointer (some ⟨g0, 0, none⟩) := by simpa using hp
  have hq' : tmps[q]?.getD undef = .pointer (some ⟨g1, 0, none⟩) := by simpa using hq
  have hr' : tmps[r]?.getD undef = .pointer (some ⟨g2, 0, none⟩) := by simpa using hr
  simp [results, h, hp', hq', hr', asAddr, run_loadVar_row w g0 ty ty cs (0, 0) d b0 hu hd hi, h1, h2]
end Go.Proofs.YtinmiekbhoemjaaDoor.Qry
end
