/- Contracts: what is lent, in memory of its own with a mark behind each list; is it as it was? Rows of integers. -/
import Derived.Test.YtinmiekbhoemjaaDoorQryInts
import Derived.Test.YtinmiekbhoemjaaDoorPack4
set_option linter.unusedVariables false
namespace Go.Proofs.YtinmiekbhoemjaaDoor.Qry
open Go.RowKit Words Tree QryP Kit Owned

/-- The mark behind a row of queries. -/
def markQ : List Value := [.int .i64 (-71), .int .i64 0, .string ⟨#[]⟩, .string ⟨#[]⟩, .string ⟨#[]⟩, .slice none 0 0, .slice none 0 0, .int .i64 0, .int .i64 0, .slice none 0 0]
/-- What lies behind lists that are lent. -/
def lent : Nat → List (List Value) := fun s => if s = 1 then [[.int .i64 (-7171)]] else if s = 10 then [markQ] else []
theorem lent_one : lent 1 = [[.int .i64 (-7171)]] := rfl
theorem lent_ten : lent 10 = [markQ] := rfl

theorem infoI64 : (Tryd.prog.info? 2).map (fun i => (i.zero, i.size, i.bytes)) = some (some (.int .i64 0), 1, 8) := by kernel_rfl
theorem infoQ : (Tryd.prog.info? 25).map (fun i => (i.zero, i.size, i.bytes)) = some (some (.agg #[.int .i64 0, .int .i64 0, .string ⟨#[]⟩, .string ⟨#[]⟩, .string ⟨#[]⟩, .slice none 0 0, .slice none 0 0, .int .i64 0, .int .i64 0, .slice none 0 0]), 10, 152) := by kernel_rfl

theorem cells_new (w : World) (l : List Value) (t : TypeId) (j : Nat) (u : Value) (h : l[j]? = some u) : (w.alloc (.cells l.toArray t)).cell? ((⟨w.heap.size, 0, none⟩ : Addr).add j) = some u := by
  have e : (⟨w.heap.size, 0, none⟩ : Addr).add j = ⟨w.heap.size, j, none⟩ := by unfold Addr.add; split <;> simp_all
  rw [e, World.cell?_alloc_new]; simpa using h

/-- Lent, in memory that lay not there before. -/
def LentT (t : T) (w : World) (e : Ending) (w' : World) : Prop := ∃ v, e = .returned v ∧ T.At lent w' (fun g => w.heap.size ≤ g ∧ g < w'.heap.size) t v ∧ Below w.heap.size w w'

set_option maxRecDepth 100000 in
theorem lent64_any (A : Option Addr) (c : Nat) (l : List Int) (w : World) (hr : Reads w w.heap.size 1 A l.length (l.map (Value.int .i64))) (hl : l.length * 8 ≤ 140737488351232) :
    Calls Tryd.prog 20 #[.slice A l.length c] w (LentT (intsT .i64 l) w) := by
  obtain ⟨i0, hi, hz0, hz1, hz2⟩ := info_parts infoI64
  go_enter Tryd.func20, Tryd.ntmps20
  go_wp2_with (at_builtin; refine wpList_append_any _ rfl (.tmp 4) (.tmp 5) 22 rfl w.heap.size 2 i0 (.int .i64 0) 1 8 Tryd.underlying22 hi hz0 hz1 hz2 rfl (by decide) (.slice none 0 0) 0 [] rfl (World.ownsRow_nil _ _ _ _) w.heap.size A l.length c (l.map (Value.int .i64)) rfl hr ?c2 ?c3 ?c4 ?c5 ?_)
  case c2 => intro u hu; obtain ⟨z, _, rfl⟩ := List.mem_map.1 hu; rfl
  case c3 => unfold maxLen; omega
  case c4 => omega
  case c5 => exact Nat.le_refl _
  intro v1 w1 ho1 hg1 _
  have hb1 : Below w.heap.size w w1 := (Below.refl _ w).grown hg1 (Nat.le_refl _) (fun r e => by cases e)
  replace ho1 : w1.ownsRow w.heap.size 2 1 v1 l.length (l.map (Value.int .i64)) := by simpa using ho1
  have HB1 := Lib.hid hb1
  have hsz1 := hb1.size
  clear hg1 hb1
  go_wp2_with (at_builtin; refine wpList_append_own _ rfl (.tmp 7) (.tmp 8) 22 rfl w.heap.size 2 i0 (.int .i64 0) 1 8 Tryd.underlying22 hi hz0 hz1 hz2 rfl (by decide) _ l.length (l.map (Value.int .i64)) rfl (ho1.alloc _) ⟨w1.heap.size, 0, none⟩ 1 1 [.int .i64 (-7171)] rfl rfl ?d1 ?d2 ?d3 ?d4 ?d5 ?_)
  case d1 => intro j u hu; exact cells_new _ _ _ j u hu
  case d2 => intro u hu; simp at hu; subst hu; rfl
  case d3 => unfold maxLen; omega
  case d4 => omega
  case d5 => simp; omega
  intro v2 w2 ho2 hg2 _
  have hb2 : Below w.heap.size w w2 := (HB1.out.alloc HB1.out.size _).grown hg2 (by simp; omega) (fun r e => (ho1.lt r e).1)
  have HB2 := Lib.hid hb2
  rcases ho2.2 with ⟨_, h0⟩ | ⟨g, cap, cur, rfl, hB, hgg, hn, hm, hcs, ht⟩
  · omega
  · have HOW := Lib.hid (ho2.cells (g := g) rfl)
    have HG : Hid (g < w2.heap.size) := Lib.hid (Array.getElem?_eq_some_iff.1 hgg).1
    have hm' := hm
    unfold maxLen at hm'
    clear hg2 hb2 ho1 hr hgg hcs ht ho2
    go_wp2_with fail
    go_ret
    refine ⟨_, rfl, ?_, HB2.out⟩
    simp only [intsT, T.At]
    refine ⟨_, cap, l.map (Value.int .i64), rfl, by simp [lent_one]; omega, hm, by simp, fun _ => ⟨_, rfl, ⟨hB, HG.out⟩, ?_⟩, AtL.of_lits⟩
    rw [lent_one]
    exact HOW.out

/-- A row of integers that was lent is as it was. -/
theorem at_lent_ints {w : World} {S : Nat → Prop} {l : List Int} {v : Value} (h : T.At lent w S (intsT .i64 l) v) :
    ∃ ad cap, v = .slice (some ad) l.length cap ∧ l.length + 1 ≤ cap ∧ cap ≤ maxLen ∧ S ad.block ∧ w.cell? (ad.add l.length) = some (.int .i64 (-7171)) := by
  simp only [intsT, T.At] at h
  obtain ⟨A, cap, vs, hv, hc, hm, hl, ha, hx⟩ := h
  rw [lent_one] at hc ha
  obtain ⟨ad, rfl, hs, hcs⟩ := ha (by simp)
  obtain rfl := AtL.lits hx
  refine ⟨ad, cap, hv, hc, hm, hs, ?_⟩
  have := hcs.right.zero
  rwa [List.length_map] at this

set_option maxRecDepth 100000 in
theorem kept64_any (v : Value) (A : Option Addr) (c : Nat) (l m : List Int) (w : World) (hv : T.At lent w (fun g => g < w.heap.size) (intsT .i64 l) v) (hr : Reads w w.heap.size 1 A m.length (m.map (Value.int .i64))) (hl : l.length * 8 ≤ 140737488351232) (hml : m.length * 8 ≤ 140737488351232) (r : Bool) (hq : r = true ↔ l = m) :
    Calls Tryd.prog 29 #[v, .slice A m.length c] w (BoolB r w) := by
  obtain ⟨ad, cap, rfl, hc, hm, hs, hcell⟩ := at_lent_ints hv
  obtain ⟨_, _, he, _, _, hrl⟩ := at_ints (At.bare hv)
  injection he with e1 e2 e3
  subst e1 e3
  have HC := int64s_any _ _ cap c l m w hrl hr hl hml r hq
  have hm' := hm
  unfold maxLen at hm'
  have HQ := Lib.hid hq; have HV := Lib.hid hv; have HR := Lib.hid hr; have HRL := Lib.hid hrl
  clear hq hv hr hrl
  have HCC := Lib.hid hcell; clear hcell
  cases r with
  | false =>
    go_enter Tryd.func29, Tryd.ntmps29
    go_wp2_with fail
    refine HC.mono ?_
    rintro e w1 ⟨rfl, b1⟩
    have B1 := Lib.hid b1; clear b1
    go_wp2_with fail
    go_ret
    exact ⟨rfl, B1.out⟩
  | true =>
    go_enter Tryd.func29, Tryd.ntmps29
    go_wp2_with fail
    refine HC.mono ?_
    rintro e w1 ⟨rfl, b1⟩
    have hcell : w1.cell? (ad.add l.length) = some (.int .i64 (-7171)) := (b1.cell (by rw [block_of_add]; exact hs)).trans HCC.out
    have B1 := Lib.hid b1; clear b1
    go_wp2_with fail
    go_ret
    exact ⟨rfl, B1.out⟩
end Go.Proofs.YtinmiekbhoemjaaDoor.Qry
