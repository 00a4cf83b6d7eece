/- Contracts: rows of integers that are lent, as trees, with the mark behind each. -/
import Derived.Test.YtfckomjbgopmaaaDoorSch
import Derived.Test.YtfckomjbgopmaaaDoorSchName
import Derived.Deep.QuietTactic
import Derived.BigQuiet
import Derived.StillTailTactics
set_option linter.unusedVariables false
namespace Go.Proofs.YtfckomjbgopmaaaDoor.Sch
open Go.RowKit Words Tree SchP Kit Owned

/-- The marks behind rows of fields and of entries. -/
def markF : List Value := [.string ⟨#[109, 97, 114, 107]⟩, .int .i64 0, .slice none 0 0, .int .i64 0, .int .i64 0, .bool false, .bool false]
def markE : List Value := [.string ⟨#[109, 97, 114, 107]⟩, .string ⟨#[]⟩, .slice none 0 0]
def lent : Nat → List (List Value) := fun s => if s = 1 then [[.int .i64 (-7171)]] else if s = 7 then [markF] else if s = 3 then [markE] else []
theorem lent_one : lent 1 = [[.int .i64 (-7171)]] := rfl
theorem lent_seven : lent 7 = [markF] := rfl
theorem lent_three : lent 3 = [markE] := rfl
theorem infoI64 : (Tryd.prog.info? 2).map (fun i => (i.zero, i.size, i.bytes)) = some (some (.int .i64 0), 1, 8) := by kernel_rfl
theorem infoInt : (Tryd.prog.info? 3).map (fun i => (i.zero, i.size, i.bytes)) = some (some (.int .i64 0), 1, 8) := by kernel_rfl
theorem infoF : (Tryd.prog.info? 44).map (fun i => (i.zero, i.size, i.bytes)) = some (some (.agg #[.string ⟨#[]⟩, .int .i64 0, .slice none 0 0, .int .i64 0, .int .i64 0, .bool false, .bool false]), 7, 72) := by kernel_rfl
theorem infoE : (Tryd.prog.info? 53).map (fun i => (i.zero, i.size, i.bytes)) = some (some (.agg #[.string ⟨#[]⟩, .string ⟨#[]⟩, .slice none 0 0]), 3, 56) := by kernel_rfl
theorem cells_new (w : World) (l : List Value) (t : TypeId) (j : Nat) (u : Value) (h : l[j]? = some u) : (w.alloc (.cells l.toArray t)).cell? ((⟨w.heap.size, 0, none⟩ : Addr).add j) = some u := by
  have e : (⟨w.heap.size, 0, none⟩ : Addr).add j = ⟨w.heap.size, j, none⟩ := by unfold Addr.add; split <;> simp_all
  rw [e, World.cell?_alloc_new]; simpa using h

/-- Lent, in memory that lay not there before. -/
def LentT (t : T) (w : World) (e : Ending) (w' : World) : Prop := ∃ v, e = .returned v ∧ T.At lent w' (fun g => w.heap.size ≤ g ∧ g < w'.heap.size) t v ∧ Below w.heap.size w w'

set_option maxRecDepth 100000 in
theorem lent64_any (A : Option Addr) (c : Nat) (l : List Int) (w : World) (hr : Reads w w.heap.size 1 A l.length (l.map (Value.int .i64))) (hl : l.length * 8 ≤ 140737488351232) :
    Calls Tryd.prog 29 #[.slice A l.length c] w (LentT (numsT .i64 l) w) := by
  obtain ⟨i0, hi, hz0, hz1, hz2⟩ := info_parts infoI64
  go_enter Tryd.func29, Tryd.ntmps29
  go_wp2_with (at_builtin; refine wpList_append_any _ rfl (.tmp 4) (.tmp 5) 51 rfl w.heap.size 2 i0 (.int .i64 0) 1 8 Tryd.underlying51 hi hz0 hz1 hz2 rfl (by decide) (.slice none 0 0) 0 [] rfl (World.ownsRow_nil _ _ _ _) w.heap.size A l.length c (l.map (Value.int .i64)) rfl hr ?c2 ?c3 ?c4 ?c5 ?_)
  case c2 => intro u hu; obtain ⟨z, _, rfl⟩ := List.mem_map.1 hu; rfl
  case c3 => unfold maxLen; omega
  case c4 => omega
  case c5 => exact Nat.le_refl _
  intro v1 w1 ho1 hg1 _
  have hb1 : Below w.heap.size w w1 := (Below.refl _ w).grown hg1 (Nat.le_refl _) (fun r e => by cases e)
  replace ho1 : w1.ownsRow w.heap.size 2 1 v1 l.length (l.map (Value.int .i64)) := by simpa using ho1
  have HB1 := Lib.hid hb1
  have hsz1 := hb1.size
  clear hg1 hb1
  go_wp2_with (at_builtin; refine wpList_append_own _ rfl (.tmp 7) (.tmp 8) 51 rfl w.heap.size 2 i0 (.int .i64 0) 1 8 Tryd.underlying51 hi hz0 hz1 hz2 rfl (by decide) _ l.length (l.map (Value.int .i64)) rfl (ho1.alloc _) ⟨w1.heap.size, 0, none⟩ 1 1 [.int .i64 (-7171)] rfl rfl ?d1 ?d2 ?d3 ?d4 ?d5 ?_)
  case d1 => intro j u hu; exact cells_new _ _ _ j u hu
  case d2 => intro u hu; simp at hu; subst hu; rfl
  case d3 => unfold maxLen; omega
  case d4 => omega
  case d5 => simp; omega
  intro v2 w2 ho2 hg2 _
  have hb2 : Below w.heap.size w w2 := (HB1.out.alloc HB1.out.size _).grown hg2 (by simp; omega) (fun r e => (ho1.lt r e).1)
  have HB2 := Lib.hid hb2
  rcases ho2.2 with ⟨_, h0⟩ | ⟨g, cap, cur, rfl, hB, hgg, hn, hm, hcs, ht⟩
  · omega
  · have HOW := Lib.hid (ho2.cells (g := g) rfl)
    have HG : Hid (g < w2.heap.size) := Lib.hid (Array.getElem?_eq_some_iff.1 hgg).1
    have hm' := hm
    unfold maxLen at hm'
    clear hg2 hb2 ho1 hr hgg hcs ht ho2
    go_wp2_with fail
    go_ret
    refine ⟨_, rfl, ?_, HB2.out⟩
    simp only [numsT, T.At]
    refine ⟨_, cap, l.map (Value.int .i64), rfl, by simp [lent_one]; omega, hm, by simp, fun _ => ⟨_, rfl, ⟨hB, HG.out⟩, ?_⟩, AtL.of_lits⟩
    rw [lent_one]
    exact HOW.out

set_option maxRecDepth 100000 in
theorem lentInt_any (A : Option Addr) (c : Nat) (l : List Int) (w : World) (hr : Reads w w.heap.size 1 A l.length (l.map (Value.int .i64))) (hl : l.length * 8 ≤ 140737488351232) :
    Calls Tryd.prog 17 #[.slice A l.length c] w (LentT (numsT .i64 l) w) := by
  obtain ⟨i0, hi, hz0, hz1, hz2⟩ := info_parts infoInt
  go_enter Tryd.func17, Tryd.ntmps17
  go_wp2_with (at_builtin; refine wpList_append_any _ rfl (.tmp 4) (.tmp 5) 42 rfl w.heap.size 3 i0 (.int .i64 0) 1 8 Tryd.underlying42 hi hz0 hz1 hz2 rfl (by decide) (.slice none 0 0) 0 [] rfl (World.ownsRow_nil _ _ _ _) w.heap.size A l.length c (l.map (Value.int .i64)) rfl hr ?c2 ?c3 ?c4 ?c5 ?_)
  case c2 => intro u hu; obtain ⟨z, _, rfl⟩ := List.mem_map.1 hu; rfl
  case c3 => unfold maxLen; omega
  case c4 => omega
  case c5 => exact Nat.le_refl _
  intro v1 w1 ho1 hg1 _
  have hb1 : Below w.heap.size w w1 := (Below.refl _ w).grown hg1 (Nat.le_refl _) (fun r e => by cases e)
  replace ho1 : w1.ownsRow w.heap.size 3 1 v1 l.length (l.map (Value.int .i64)) := by simpa using ho1
  have HB1 := Lib.hid hb1
  have hsz1 := hb1.size
  clear hg1 hb1
  go_wp2_with (at_builtin; refine wpList_append_own _ rfl (.tmp 7) (.tmp 8) 42 rfl w.heap.size 3 i0 (.int .i64 0) 1 8 Tryd.underlying42 hi hz0 hz1 hz2 rfl (by decide) _ l.length (l.map (Value.int .i64)) rfl (ho1.alloc _) ⟨w1.heap.size, 0, none⟩ 1 1 [.int .i64 (-7171)] rfl rfl ?d1 ?d2 ?d3 ?d4 ?d5 ?_)
  case d1 => intro j u hu; exact cells_new _ _ _ j u hu
  case d2 => intro u hu; simp at hu; subst hu; rfl
  case d3 => unfold maxLen; omega
  case d4 => omega
  case d5 => simp; omega
  intro v2 w2 ho2 hg2 _
  have hb2 : Below w.heap.size w w2 := (HB1.out.alloc HB1.out.size _).grown hg2 (by simp; omega) (fun r e => (ho1.lt r e).1)
  have HB2 := Lib.hid hb2
  rcases ho2.2 with ⟨_, h0⟩ | ⟨g, cap, cur, rfl, hB, hgg, hn, hm, hcs, ht⟩
  · omega
  · have HOW := Lib.hid (ho2.cells (g := g) rfl)
    have HG : Hid (g < w2.heap.size) := Lib.hid (Array.getElem?_eq_some_iff.1 hgg).1
    have hm' := hm
    unfold maxLen at hm'
    clear hg2 hb2 ho1 hr hgg hcs ht ho2
    go_wp2_with fail
    go_ret
    refine ⟨_, rfl, ?_, HB2.out⟩
    simp only [numsT, T.At]
    refine ⟨_, cap, l.map (Value.int .i64), rfl, by simp [lent_one]; omega, hm, by simp, fun _ => ⟨_, rfl, ⟨hB, HG.out⟩, ?_⟩, AtL.of_lits⟩
    rw [lent_one]
    exact HOW.out

end Go.Proofs.YtfckomjbgopmaaaDoor.Sch
