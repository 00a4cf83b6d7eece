/- Contracts: rows of integers that are lent, as trees, with the mark behind each. Contracts: rows of integers compared, and kept. Contracts: a schema and a document that are lent. -/
import Derived.Test.YtinmiekbhoemjaaGreatDoorPack8
import Derived.Deep.QuietTactic
import Derived.BigQuiet
import Derived.StillTailTactics
section
set_option linter.unusedVariables false
namespace Go.Proofs.YtinmiekbhoemjaaGreatDoor.Sch
open Go.RowKit Words Tree SchP Kit Owned

/-- The marks behind rows of fields and of entries. -/
def markF : List Value := [.string ⟨#[109, 97, 114, 107]⟩, .int .i64 0, .slice none 0 0, .int .i64 0, .int .i64 0, .bool false, .bool false]
def markE : List Value := [.string ⟨#[109, 97, 114, 107]⟩, .string ⟨#[]⟩, .slice none 0 0]
def lent : Nat → List (List Value) := fun s => if s = 1 then [[.int .i64 (-7171)]] else if s = 7 then [markF] else if s = 3 then [markE] else []
theorem lent_one : lent 1 = [[.int .i64 (-7171)]] := rfl
theorem lent_seven : lent 7 = [markF] := rfl
theorem infoI64 : (Tryz.prog.info? 2).map (fun i => (i.zero, i.size, i.bytes)) = some (some (.int .i64 0), 1, 8) := by kernel_rfl
theorem infoInt : (Tryz.prog.info? 3).map (fun i => (i.zero, i.size, i.bytes)) = some (some (.int .i64 0), 1, 8) := by kernel_rfl
theorem infoF : (Tryz.prog.info? 46).map (fun i => (i.zero, i.size, i.bytes)) = some (some (.agg #[.string ⟨#[]⟩, .int .i64 0, .slice none 0 0, .int .i64 0, .int .i64 0, .bool false, .bool false]), 7, 72) := by kernel_rfl
theorem cells_new (w : World) (l : List Value) (t : TypeId) (j : Nat) (u : Value) (h : l[j]? = some u) : (w.alloc (.cells l.toArray t)).cell? ((⟨w.heap.size, 0, none⟩ : Addr).add j) = some u := by
  have e : (⟨w.heap.size, 0, none⟩ : Addr).add j = ⟨w.heap.size, j, none⟩ := by unfold Addr.add; split <;> simp_all
  rw [e, World.cell?_alloc_new]; simpa using h

/-- Lent, in memory that lay not there before. -/
def LentT (t : T) (w : World) (e : Ending) (w' : World) : Prop := ∃ v, e = .returned v ∧ T.At lent w' (fun g => w.heap.size ≤ g ∧ g < w'.heap.size) t v ∧ Below w.heap.size w w'

set_option maxRecDepth 100000 in
theorem lent64_any (A : Option Addr) (c : Nat) (l : List Int) (w : World) (hr : Reads w w.heap.size 1 A l.length (l.map (Value.int .i64))) (hl : l.length * 8 ≤ 140737488351232) :
    Calls Tryz.prog 10 #[.slice A l.length c] w (LentT (numsT .i64 l) w) := by
  obtain ⟨i0, hi, hz0, hz1, hz2⟩ := info_parts infoI64
  go_enter Tryz.func10, Tryz.ntmps10
  go_wp2_with (at_builtin; refine wpList_append_any _ rfl (.tmp 4) (.tmp 5) 25 rfl w.heap.size 2 i0 (.int .i64 0) 1 8 Tryz.underlying25 hi hz0 hz1 hz2 rfl (by decide) (.slice none 0 0) 0 [] rfl (World.ownsRow_nil _ _ _ _) w.heap.size A l.length c (l.map (Value.int .i64)) rfl hr ?c2 ?c3 ?c4 ?c5 ?_)
  case c2 => intro u hu; obtain ⟨z, _, rfl⟩ := List.mem_map.1 hu; rfl
  case c3 => unfold maxLen; omega
  case c4 => omega
  case c5 => exact Nat.le_refl _
  intro v1 w1 ho1 hg1 _
  have hb1 : Below w.heap.size w w1 := (Below.refl _ w).grown hg1 (Nat.le_refl _) (fun r e => by cases e)
  replace ho1 : w1.ownsRow w.heap.size 2 1 v1 l.length (l.map (Value.int .i64)) := by simpa using ho1
  have HB1 := Lib.hid hb1
  have hsz1 := hb1.size
  clear hg1 hb1
  go_wp2_with (at_builtin; refine wpList_append_own _ rfl (.tmp 7) (.tmp 8) 25 rfl w.heap.size 2 i0 (.int .i64 0) 1 8 Tryz.underlying25 hi hz0 hz1 hz2 rfl (by decide) _ l.length (l.map (Value.int .i64)) rfl (ho1.alloc _) ⟨w1.heap.size, 0, none⟩ 1 1 [.int .i64 (-7171)] rfl rfl ?d1 ?d2 ?d3 ?d4 ?d5 ?_)
  case d1 => intro j u hu; exact cells_new _ _ _ j u hu
  case d2 => intro u hu; simp at hu; subst hu; rfl
  case d3 => unfold maxLen; omega
  case d4 => omega
  case d5 => simp; omega
  intro v2 w2 ho2 hg2 _
  have hb2 : Below w.heap.size w w2 := (HB1.out.alloc HB1.out.size _).grown hg2 (by simp; omega) (fun r e => (ho1.lt r e).1)
  have HB2 := Lib.hid hb2
  rcases ho2.2 with ⟨_, h0⟩ | ⟨g, cap, cur, rfl, hB, hgg, hn, hm, hcs, ht⟩
  · omega
  · have HOW := Lib.hid (ho2.cells (g := g) rfl)
    have HG : Hid (g < w2.heap.size) := Lib.hid (Array.getElem?_eq_some_iff.1 hgg).1
    have hm' := hm
    unfold maxLen at hm'
    clear hg2 hb2 ho1 hr hgg hcs ht ho2
    go_wp2_with fail
    go_ret
    refine ⟨_, rfl, ?_, HB2.out⟩
    simp only [numsT, T.At]
    refine ⟨_, cap, l.map (Value.int .i64), rfl, by simp [lent_one]; omega, hm, by simp, fun _ => ⟨_, rfl, ⟨hB, HG.out⟩, ?_⟩, AtL.of_lits⟩
    rw [lent_one]
    exact HOW.out

set_option maxRecDepth 100000 in
theorem lentInt_any (A : Option Addr) (c : Nat) (l : List Int) (w : World) (hr : Reads w w.heap.size 1 A l.length (l.map (Value.int .i64))) (hl : l.length * 8 ≤ 140737488351232) :
    Calls Tryz.prog 11 #[.slice A l.length c] w (LentT (numsT .i64 l) w) := by
  obtain ⟨i0, hi, hz0, hz1, hz2⟩ := info_parts infoInt
  go_enter Tryz.func11, Tryz.ntmps11
  go_wp2_with (at_builtin; refine wpList_append_any _ rfl (.tmp 4) (.tmp 5) 44 rfl w.heap.size 3 i0 (.int .i64 0) 1 8 Tryz.underlying44 hi hz0 hz1 hz2 rfl (by decide) (.slice none 0 0) 0 [] rfl (World.ownsRow_nil _ _ _ _) w.heap.size A l.length c (l.map (Value.int .i64)) rfl hr ?c2 ?c3 ?c4 ?c5 ?_)
  case c2 => intro u hu; obtain ⟨z, _, rfl⟩ := List.mem_map.1 hu; rfl
  case c3 => unfold maxLen; omega
  case c4 => omega
  case c5 => exact Nat.le_refl _
  intro v1 w1 ho1 hg1 _
  have hb1 : Below w.heap.size w w1 := (Below.refl _ w).grown hg1 (Nat.le_refl _) (fun r e => by cases e)
  replace ho1 : w1.ownsRow w.heap.size 3 1 v1 l.length (l.map (Value.int .i64)) := by simpa using ho1
  have HB1 := Lib.hid hb1
  have hsz1 := hb1.size
  clear hg1 hb1
  go_wp2_with (at_builtin; refine wpList_append_own _ rfl (.tmp 7) (.tmp 8) 44 rfl w.heap.size 3 i0 (.int .i64 0) 1 8 Tryz.underlying44 hi hz0 hz1 hz2 rfl (by decide) _ l.length (l.map (Value.int .i64)) rfl (ho1.alloc _) ⟨w1.heap.size, 0, none⟩ 1 1 [.int .i64 (-7171)] rfl rfl ?d1 ?d2 ?d3 ?d4 ?d5 ?_)
  case d1 => intro j u hu; exact cells_new _ _ _ j u hu
  case d2 => intro u hu; simp at hu; subst hu; rfl
  case d3 => unfold maxLen; omega
  case d4 => omega
  case d5 => simp; omega
  intro v2 w2 ho2 hg2 _
  have hb2 : Below w.heap.size w w2 := (HB1.out.alloc HB1.out.size _).grown hg2 (by simp; omega) (fun r e => (ho1.lt r e).1)
  have HB2 := Lib.hid hb2
  rcases ho2.2 with ⟨_, h0⟩ | ⟨g, cap, cur, rfl, hB, hgg, hn, hm, hcs, ht⟩
  · omega
  · have HOW := Lib.hid (ho2.cells (g := g) rfl)
    have HG : Hid (g < w2.heap.size) := Lib.hid (Array.getElem?_eq_some_iff.1 hgg).1
    have hm' := hm
    unfold maxLen at hm'
    clear hg2 hb2 ho1 hr hgg hcs ht ho2
    go_wp2_with fail
    go_ret
    refine ⟨_, rfl, ?_, HB2.out⟩
    simp only [numsT, T.At]
    refine ⟨_, cap, l.map (Value.int .i64), rfl, by simp [lent_one]; omega, hm, by simp, fun _ => ⟨_, rfl, ⟨hB, HG.out⟩, ?_⟩, AtL.of_lits⟩
    rw [lent_one]
    exact HOW.out

end Go.Proofs.YtinmiekbhoemjaaGreatDoor.Sch
end
section
set_option linter.unusedVariables false
namespace Go.Proofs.YtinmiekbhoemjaaGreatDoor.Sch
open Go.RowKit Words Tree SchP Kit Owned

/-- Element k of a row of integers that is read. -/
theorem reads_int {w : World} {B : Nat} {A : Option Addr} {l : List Int} {i : IntKind} (h : Reads w B 1 A l.length (l.map (Value.int i))) {k : Nat} (hk : k < l.length) :
    ∃ ad, A = some ad ∧ ad.block < B ∧ w.cell? (ad.add k) = some (.int i l[k]) := by
  obtain ⟨ad, e, hb, hc⟩ := h.2 (by omega)
  exact ⟨ad, e, hb, hc k _ (by simp [hk])⟩
theorem below_drewN' {w : World} (n : Nat) : Below w.heap.size w (w.drewN n) := ⟨rfl, rfl, rfl, Nat.le_refl _, fun _ _ => rfl⟩
theorem take_snoc {α : Type} {l : List α} {k : Nat} (h : k < l.length) : l.take (k + 1) = l.take k ++ [l[k]] := List.take_succ_eq_append_getElem h

set_option maxRecDepth 100000 in
theorem int64s_any (ao bo : Option Addr) (c d : Nat) (xs ys : List Int) (w : World) (ha : Reads w w.heap.size 1 ao xs.length (xs.map (Value.int .i64))) (hb : Reads w w.heap.size 1 bo ys.length (ys.map (Value.int .i64))) (hla : xs.length * 8 ≤ 140737488351232) (hlb : ys.length * 8 ≤ 140737488351232) (r : Bool) (hr : r = true ↔ xs = ys) :
    Calls Tryz.prog 44 #[.slice ao xs.length c, .slice bo ys.length d] w (AnsB r w) := by
  have HA := Lib.hid ha; have HB := Lib.hid hb; have HR := Lib.hid hr
  clear ha hb hr
  by_cases hl : xs.length = ys.length
  · have HL := Lib.hid hl
    have hbne : ((xs.length : Int) != (ys.length : Int)) = false := by rw [hl]; simp
    clear hl
    go_enter Tryz.func44, Tryz.ntmps44
    go_wp2_with fail
    go_loopw [5] (fun i wr => ∃ (k m : Nat), k ≤ xs.length ∧ i = .int .i64 k ∧ Hid (xs.take k = ys.take k) ∧ wr = w.drewN m) (fun i _ => xs.length - (intOf i).toNat)
    case atStart => exact ⟨0, 0, by omega, rfl, Lib.hid (by simp), rfl⟩
    case round =>
      obtain ⟨k, m, hk, rfl, HE, rfl⟩ := hrel
      by_cases hlt : k < xs.length
      · have hlt2 : k < ys.length := by have := HL.out; omega
        obtain ⟨ad, rfl, hba, a0⟩ := reads_int HA.out hlt
        obtain ⟨bd, rfl, hbb, b0⟩ := reads_int HB.out hlt2
        have HST : Hid (xs.take (k + 1) = xs.take k ++ [xs[k]] ∧ ys.take (k + 1) = ys.take k ++ [ys[k]]) := Lib.hid ⟨take_snoc hlt, take_snoc hlt2⟩
        have HNE : Hid (¬ xs[k] = ys[k] → r = false) := Lib.hid (fun h => by
          cases hr0 : r with
          | false => rfl
          | true =>
            have e := HR.out.1 hr0
            subst e
            exact absurd rfl h)
        by_cases he : xs[k] = ys[k]
        · have HQ := Lib.hid he
          rw [← he] at b0
          clear he HNE
          generalize hx : xs[k] = x at *
          clear hx
          go_wp2_with fail
          go_quiet (fail)
          go_wp2_with fail
          go_roundw
          case rel => exact ⟨k + 1, _, by omega, by go_num, Lib.hid (by rw [HST.out.1, HST.out.2, HE.out, ← HQ.out]), by first | rfl | (rw [World.drewN_drewN])⟩
          case measure => simp [intOf]; omega
        · have HRF := Lib.hid (HNE.out he)
          have hne : (xs[k] != ys[k]) = true := by rw [bne_iff_ne]; exact he
          clear he HNE HST
          generalize xs[k] = x at *
          generalize ys[k] = y at *
          go_wp2_with fail
          go_quiet (fail)
          go_wp2_with fail
          go_ret
          rw [HRF.out]
          exact ⟨rfl, ⟨rfl, rfl, rfl, Nat.le_refl _, fun _ _ => rfl⟩⟩
      · obtain rfl : k = xs.length := by omega
        have hT : r = true := by
          rw [HR.out]
          have := HE.out
          rw [List.take_of_length_le (Nat.le_refl _), HL.out, List.take_of_length_le (Nat.le_refl _)] at this
          exact this
        have HRT := Lib.hid hT
        clear hT
        go_wp2_with fail
        go_ret
        rw [HRT.out]
        exact ⟨rfl, below_drewN' _⟩
  · have hbne : ((xs.length : Int) != (ys.length : Int)) = true := by rw [bne_iff_ne]; omega
    have HRF : Hid (r = false) := Lib.hid (by
      cases hr0 : r with
      | false => rfl
      | true => exact absurd (by rw [HR.out.1 hr0]) hl)
    clear hl
    go_enter Tryz.func44, Tryz.ntmps44
    go_wp2_with fail
    go_ret
    rw [HRF.out]
    exact ⟨rfl, Below.refl _ _⟩

set_option maxRecDepth 100000 in
theorem ints_any (ao bo : Option Addr) (c d : Nat) (xs ys : List Int) (w : World) (ha : Reads w w.heap.size 1 ao xs.length (xs.map (Value.int .i64))) (hb : Reads w w.heap.size 1 bo ys.length (ys.map (Value.int .i64))) (hla : xs.length * 8 ≤ 140737488351232) (hlb : ys.length * 8 ≤ 140737488351232) (r : Bool) (hr : r = true ↔ xs = ys) :
    Calls Tryz.prog 45 #[.slice ao xs.length c, .slice bo ys.length d] w (AnsB r w) := by
  have HA := Lib.hid ha; have HB := Lib.hid hb; have HR := Lib.hid hr
  clear ha hb hr
  by_cases hl : xs.length = ys.length
  · have HL := Lib.hid hl
    have hbne : ((xs.length : Int) != (ys.length : Int)) = false := by rw [hl]; simp
    clear hl
    go_enter Tryz.func45, Tryz.ntmps45
    go_wp2_with fail
    go_loopw [5] (fun i wr => ∃ (k m : Nat), k ≤ xs.length ∧ i = .int .i64 k ∧ Hid (xs.take k = ys.take k) ∧ wr = w.drewN m) (fun i _ => xs.length - (intOf i).toNat)
    case atStart => exact ⟨0, 0, by omega, rfl, Lib.hid (by simp), rfl⟩
    case round =>
      obtain ⟨k, m, hk, rfl, HE, rfl⟩ := hrel
      by_cases hlt : k < xs.length
      · have hlt2 : k < ys.length := by have := HL.out; omega
        obtain ⟨ad, rfl, hba, a0⟩ := reads_int HA.out hlt
        obtain ⟨bd, rfl, hbb, b0⟩ := reads_int HB.out hlt2
        have HST : Hid (xs.take (k + 1) = xs.take k ++ [xs[k]] ∧ ys.take (k + 1) = ys.take k ++ [ys[k]]) := Lib.hid ⟨take_snoc hlt, take_snoc hlt2⟩
        have HNE : Hid (¬ xs[k] = ys[k] → r = false) := Lib.hid (fun h => by
          cases hr0 : r with
          | false => rfl
          | true =>
            have e := HR.out.1 hr0
            subst e
            exact absurd rfl h)
        by_cases he : xs[k] = ys[k]
        · have HQ := Lib.hid he
          rw [← he] at b0
          clear he HNE
          generalize hx : xs[k] = x at *
          clear hx
          go_wp2_with fail
          go_quiet (fail)
          go_wp2_with fail
          go_roundw
          case rel => exact ⟨k + 1, _, by omega, by go_num, Lib.hid (by rw [HST.out.1, HST.out.2, HE.out, ← HQ.out]), by first | rfl | (rw [World.drewN_drewN])⟩
          case measure => simp [intOf]; omega
        · have HRF := Lib.hid (HNE.out he)
          have hne : (xs[k] != ys[k]) = true := by rw [bne_iff_ne]; exact he
          clear he HNE HST
          generalize xs[k] = x at *
          generalize ys[k] = y at *
          go_wp2_with fail
          go_quiet (fail)
          go_wp2_with fail
          go_ret
          rw [HRF.out]
          exact ⟨rfl, ⟨rfl, rfl, rfl, Nat.le_refl _, fun _ _ => rfl⟩⟩
      · obtain rfl : k = xs.length := by omega
        have hT : r = true := by
          rw [HR.out]
          have := HE.out
          rw [List.take_of_length_le (Nat.le_refl _), HL.out, List.take_of_length_le (Nat.le_refl _)] at this
          exact this
        have HRT := Lib.hid hT
        clear hT
        go_wp2_with fail
        go_ret
        rw [HRT.out]
        exact ⟨rfl, below_drewN' _⟩
  · have hbne : ((xs.length : Int) != (ys.length : Int)) = true := by rw [bne_iff_ne]; omega
    have HRF : Hid (r = false) := Lib.hid (by
      cases hr0 : r with
      | false => rfl
      | true => exact absurd (by rw [HR.out.1 hr0]) hl)
    clear hl
    go_enter Tryz.func45, Tryz.ntmps45
    go_wp2_with fail
    go_ret
    rw [HRF.out]
    exact ⟨rfl, Below.refl _ _⟩

set_option maxRecDepth 100000 in
theorem kept64_any (v : Value) (A : Option Addr) (c : Nat) (l m : List Int) (w : World) (hv : T.At lent w (fun g => g < w.heap.size) (numsT .i64 l) v) (hr : Reads w w.heap.size 1 A m.length (m.map (Value.int .i64))) (hl : l.length * 8 ≤ 140737488351232) (hml : m.length * 8 ≤ 140737488351232) (r : Bool) (hq : r = true ↔ l = m) :
    Calls Tryz.prog 26 #[v, .slice A m.length c] w (AnsB r w) := by
  obtain ⟨ad, cap, rfl, hc, hm, hs, hcell⟩ := at_nums_mark lent_one hv
  obtain ⟨_, _, he, _, _, hrl⟩ := at_nums (At.bare hv)
  injection he with e1 e2 e3
  subst e1 e3
  have HC := int64s_any _ _ cap c l m w hrl hr hl hml r hq
  have hm' := hm
  unfold maxLen at hm'
  have HQ := Lib.hid hq; have HV := Lib.hid hv; have HR := Lib.hid hr; have HRL := Lib.hid hrl
  clear hq hv hr hrl
  have HCC := Lib.hid hcell; clear hcell
  cases r with
  | false =>
    go_enter Tryz.func26, Tryz.ntmps26
    go_wp2_with fail
    refine HC.mono ?_
    rintro e w1 ⟨rfl, b1⟩
    have B1 := Lib.hid b1; clear b1
    go_wp2_with fail
    go_ret
    exact ⟨rfl, B1.out⟩
  | true =>
    go_enter Tryz.func26, Tryz.ntmps26
    go_wp2_with fail
    refine HC.mono ?_
    rintro e w1 ⟨rfl, b1⟩
    have hcell : w1.cell? (ad.add l.length) = some (.int .i64 (-7171)) := (b1.cell (by rw [block_of_add]; exact hs)).trans HCC.out
    have B1 := Lib.hid b1; clear b1
    go_wp2_with fail
    go_ret
    exact ⟨rfl, B1.out⟩
set_option maxRecDepth 100000 in
theorem keptInt_any (v : Value) (A : Option Addr) (c : Nat) (l m : List Int) (w : World) (hv : T.At lent w (fun g => g < w.heap.size) (numsT .i64 l) v) (hr : Reads w w.heap.size 1 A m.length (m.map (Value.int .i64))) (hl : l.length * 8 ≤ 140737488351232) (hml : m.length * 8 ≤ 140737488351232) (r : Bool) (hq : r = true ↔ l = m) :
    Calls Tryz.prog 28 #[v, .slice A m.length c] w (AnsB r w) := by
  obtain ⟨ad, cap, rfl, hc, hm, hs, hcell⟩ := at_nums_mark lent_one hv
  obtain ⟨_, _, he, _, _, hrl⟩ := at_nums (At.bare hv)
  injection he with e1 e2 e3
  subst e1 e3
  have HC := ints_any _ _ cap c l m w hrl hr hl hml r hq
  have hm' := hm
  unfold maxLen at hm'
  have HQ := Lib.hid hq; have HV := Lib.hid hv; have HR := Lib.hid hr; have HRL := Lib.hid hrl
  clear hq hv hr hrl
  have HCC := Lib.hid hcell; clear hcell
  cases r with
  | false =>
    go_enter Tryz.func28, Tryz.ntmps28
    go_wp2_with fail
    refine HC.mono ?_
    rintro e w1 ⟨rfl, b1⟩
    have B1 := Lib.hid b1; clear b1
    go_wp2_with fail
    go_ret
    exact ⟨rfl, B1.out⟩
  | true =>
    go_enter Tryz.func28, Tryz.ntmps28
    go_wp2_with fail
    refine HC.mono ?_
    rintro e w1 ⟨rfl, b1⟩
    have hcell : w1.cell? (ad.add l.length) = some (.int .i64 (-7171)) := (b1.cell (by rw [block_of_add]; exact hs)).trans HCC.out
    have B1 := Lib.hid b1; clear b1
    go_wp2_with fail
    go_ret
    exact ⟨rfl, B1.out⟩
end Go.Proofs.YtinmiekbhoemjaaGreatDoor.Sch
end
section
set_option linter.unusedVariables false
namespace Go.Proofs.YtinmiekbhoemjaaGreatDoor.Sch
open Go.RowKit Words Tree SchP Kit Owned

theorem below2 {w : World} (o1 o2 : Obj) : Below w.heap.size w ((w.alloc o1).alloc o2) := ((Below.refl _ _).alloc (Nat.le_refl _) _).alloc (by simp) _
theorem blk_a (w : World) (cs ds : Array Value) (t t' : TypeId) : Blk ((w.alloc (.cells cs t)).alloc (.cells ds t')) w.heap.size t cs := (Blk.new w t cs).alloc _
theorem blk_b (w : World) (cs ds : Array Value) (t t' : TypeId) : Blk ((w.alloc (.cells cs t)).alloc (.cells ds t')) (w.heap.size + 1) t' ds := by
  have := Blk.new (w.alloc (.cells cs t)) t' ds
  rwa [World.size_alloc] at this
/-- Seven cells, as the walk spells them. -/
theorem seven {w : World} {ad : Addr} {v0 v1 v2 v3 v4 v5 v6 : Value} (h : Cells w ad [v0, v1, v2, v3, v4, v5, v6]) :
    w.cell? ad = some v0 ∧ w.cell? ⟨ad.block, ad.off + 1, none⟩ = some v1 ∧ w.cell? ⟨ad.block, ad.off + 2, none⟩ = some v2 ∧ w.cell? ⟨ad.block, ad.off + 3, none⟩ = some v3 ∧ w.cell? ⟨ad.block, ad.off + 4, none⟩ = some v4 ∧
    w.cell? ⟨ad.block, ad.off + 5, none⟩ = some v5 ∧ w.cell? ⟨ad.block, ad.off + 6, none⟩ = some v6 :=
  ⟨h.zero, h.at_ 1 _ rfl (by omega), h.at_ 2 _ rfl (by omega), h.at_ 3 _ rfl (by omega), h.at_ 4 _ rfl (by omega), h.at_ 5 _ rfl (by omega), h.at_ 6 _ rfl (by omega)⟩

set_option maxRecDepth 100000 in
set_option maxHeartbeats 4000000 in
theorem lentSchema_any (u : Value) (l : List FT) (w : World) (hu : T.At bare w (fun g => g < w.heap.size) (fieldsT l) u) (hl : l.length * 72 ≤ 140737488351232) (hf : ∀ f ∈ l, FOk f) :
    Calls Tryz.prog 5 #[.agg #[u]] w (fun e w' => ∃ v, e = .returned (.agg #[v]) ∧ T.At lent w' (fun g => w.heap.size ≤ g ∧ g < w'.heap.size) (fieldsT l) v ∧ Below w.heap.size w w') := by
  obtain ⟨A, cap, rfl, hc, hm, hel⟩ := at_row fcells_len hu
  have EL := Lib.hid hel
  clear hel hu
  go_enter Tryz.func5, Tryz.ntmps5
  go_wp2_with fail
  have HB := Lib.hid (below2 (w := w) (.cells #[.slice A l.length cap] 24) (.cells #[.slice none 0 0] 24))
  have BA := Lib.hid (blk_a w #[.slice A l.length cap] #[.slice none 0 0] 24 24)
  have BB := Lib.hid (blk_b w #[.slice A l.length cap] #[.slice none 0 0] 24 24)
  have hzW : ((w.alloc (Obj.cells #[.slice A l.length cap] 24)).alloc (Obj.cells #[.slice none 0 0] 24)).heap.size = w.heap.size + 2 := by simp
  generalize (w.alloc (Obj.cells #[.slice A l.length cap] 24)).alloc (Obj.cells #[.slice none 0 0] 24) = W at *
  go_loopw [3, 4] (fun v i wr => ∃ k : Nat, k ≤ l.length ∧ i = .int .i64 k ∧ Hid (LentRow lent 46 7 fcells W wr v l k)) (fun _ i _ => l.length - (intOf i).toNat)
  case atStart => exact ⟨0, by omega, rfl, Lib.hid (lentRow_zero _ W l)⟩
  case round =>
    obtain ⟨k, hkk, rfl, HK⟩ := hrel
    have HKB : Hid (Below W.heap.size W wr) := Lib.hid (by obtain ⟨_, _, _, h⟩ := HK.out; exact h)
    have BW := Lib.hid (BA.out.below HKB.out (by omega))
    have hzr := HKB.out.size
    have c0 : wr.cell? ⟨w.heap.size, 0, none⟩ = some (.slice A l.length cap) := BW.out.cell 0
    by_cases hlt : k < l.length
    · obtain ⟨ad, us, rfl, hba, au, lu, cu⟩ := EL.out k hlt
      have HWR : Hid (Below w.heap.size w wr) := Lib.hid (HB.out.trans (HKB.out.mono HB.out.size))
      replace cu := cu.keep (w' := wr) (fun p hp => HWR.out.cell (by rw [hp, block_of_add]; exact hba))
      have hab : (ad.add (k * 7)).block < wr.heap.size := by rw [block_of_add]; omega
      have HF := Lib.hid (hf l[k] (List.getElem_mem hlt))
      have HFQ : Hid (∃ f, l[k] = f) := Lib.hid ⟨_, rfl⟩
      obtain ⟨f, hfk⟩ := HFQ.out
      rw [hfk] at au HF
      obtain ⟨vc, rfl, gc⟩ := at_fcells au
      obtain ⟨X, z, rfl, _, _, hrd⟩ := at_nums gc
      obtain ⟨a0, a1, a2, a3, a4, a5, a6⟩ := seven cu
      have HRD := Lib.hid hrd
      clear cu au lu gc hrd HFQ
      go_wp2_with fail
      have HWN := Lib.hid ((Below.refl _ wr).alloc (Nat.le_refl _) (Obj.cells #[.string f.name, .int .i64 f.kind, .slice X f.chain.length z, .int .i64 f.scale, .int .i64 f.dims, .bool f.many, .bool f.stored] 46))
      have BF := Lib.hid (Blk.new wr 46 #[.string f.name, .int .i64 f.kind, .slice X f.chain.length z, .int .i64 f.scale, .int .i64 f.dims, .bool f.many, .bool f.stored])
      have hzn : (wr.alloc (Obj.cells #[.string f.name, .int .i64 f.kind, .slice X f.chain.length z, .int .i64 f.scale, .int .i64 f.dims, .bool f.many, .bool f.stored] 46)).heap.size = wr.heap.size + 1 := by simp
      clear a0 a1 a2 a3 a4 a5 a6 c0
      generalize wr.alloc (Obj.cells #[.string f.name, .int .i64 f.kind, .slice X f.chain.length z, .int .i64 f.scale, .int .i64 f.dims, .bool f.many, .bool f.stored] 46) = W1 at *
      refine (lentInt_any X z f.chain W1 (((HRD.out.below HWR.out).below (HWN.out.mono HWR.out.size)).more (by have := HWR.out.size; omega)) HF.out.chain.1).mono ?_
      rintro e w3 ⟨vl, rfl, al, b3⟩
      obtain ⟨Y, z2, rfl, _, _⟩ := at_slice al
      have hz3 := b3.size
      have BF3 := Lib.hid (BF.out.below b3 BF.out.lt)
      have HB3 := Lib.hid (HWN.out.trans (b3.mono (by omega)) : Below wr.heap.size wr w3)
      have AL3 := Lib.hid al
      have c2 : w3.cell? ⟨wr.heap.size, 2, none⟩ = some (.slice X f.chain.length z) := BF3.out.cell 2
      have f2 : w3.frozen? ⟨wr.heap.size, 2, none⟩ = false := BF3.out.frozen 2
      clear al b3
      go_upto_region 7 with fail
      have BF4 : Hid (Blk (w3.setCell ⟨wr.heap.size, 2, none⟩ (.slice Y f.chain.length z2)) wr.heap.size 46 #[.string f.name, .int .i64 f.kind, .slice Y f.chain.length z2, .int .i64 f.scale, .int .i64 f.dims, .bool f.many, .bool f.stored]) := Lib.hid (BF3.out.set_ 2 _)
      have HB4 : Hid (Below wr.heap.size wr (w3.setCell ⟨wr.heap.size, 2, none⟩ (.slice Y f.chain.length z2))) := Lib.hid (HB3.out.setCell (Nat.le_refl _) _)
      have hs4 : (w3.setCell ⟨wr.heap.size, 2, none⟩ (.slice Y f.chain.length z2)).heap.size = w3.heap.size := by simp [World.setCell]
      have AL4 : Hid (T.At lent (w3.setCell ⟨wr.heap.size, 2, none⟩ (.slice Y f.chain.length z2)) (fun g => wr.heap.size ≤ g ∧ g < w3.heap.size) (numsT .i64 f.chain) (.slice Y f.chain.length z2)) :=
        Lib.hid (At.keep (fun p hp => World.cell?_setCell_other _ _ _ _ (by intro e; subst e; have := hp.1; simp at this; omega)) (fun g h => ⟨by omega, h.2⟩) AL3.out)
      clear c2 f2 BF3 HB3 AL3 BF
      generalize w3.setCell ⟨wr.heap.size, 2, none⟩ (.slice Y f.chain.length z2) = W4 at *
      have b0 := BF4.out.cell 0
      have b1 := BF4.out.cell 1
      have b2 := BF4.out.cell 2
      have b3 := BF4.out.cell 3
      have b4 := BF4.out.cell 4
      have b5 := BF4.out.cell 5
      have b6 := BF4.out.cell 6
      obtain ⟨xs, hx, ha, hB⟩ := HK.out
      have hown := own_below hx HB4.out
      have HX := Lib.hid hx; have HA := Lib.hid ha
      have HFK := Lib.hid hfk
      have HS4 := Lib.hid hs4
      obtain ⟨i0, hi1, hi2, hi3, hi4⟩ := info_parts infoF
      clear hx ha hB hfk hs4
      go_wp2_with (at_builtin; refine wpList_append_any _ rfl (.tmp 22) (.tmp 24) 22 rfl W.heap.size 46 i0 _ 7 72 Tryz.underlying22 hi1 hi2 hi3 hi4 rfl (by decide) _ k xs rfl (hown.alloc _) (W4.heap.size + 1) (some ⟨W4.heap.size, 0, none⟩) 1 1 [.string f.name, .int .i64 f.kind, .slice Y f.chain.length z2, .int .i64 f.scale, .int .i64 f.dims, .bool f.many, .bool f.stored] rfl ?d1 ?d2 ?d3 ?d4 ?d5 ?_)
      all_goals have hs4 := HS4.out
      case d1 => exact ⟨rfl, fun _ => ⟨_, rfl, Nat.lt_succ_self _, fun j u hu => cells_new W4 _ _ j u hu⟩⟩
      case d2 => intro u hu; simp only [List.mem_cons, List.not_mem_nil, or_false] at hu; rcases hu with rfl | rfl | rfl | rfl | rfl | rfl | rfl <;> rfl
      case d3 => unfold maxLen; omega
      case d4 => omega
      case d5 => simp; omega
      intro v' w5 ho hg hv
      have HST : Hid (LentRow lent 46 7 fcells W w5 v' l (k + 1)) := Lib.hid (by
        rw [← hzW] at ho
        refine lentRow_step (us := [.string f.name, .int .i64 f.kind, .slice Y f.chain.length z2, .int .i64 f.scale, .int .i64 f.dims, .bool f.many, .bool f.stored]) (w3 := W4.alloc (.cells #[.string f.name, .int .i64 f.kind, .slice Y f.chain.length z2, .int .i64 f.scale, .int .i64 f.dims, .bool f.many, .bool f.stored] 46)) hlt HX.out HA.out HKB.out ?_ (HB4.out.alloc HB4.out.size _) ho hg (by simpa using hv)
        rw [HFK.out]
        refine fcells_mk (At.keep (fun p hp => World.cell?_alloc_lt _ _ _ (by omega)) (fun g h => ⟨h.1, by simp; omega⟩) AL4.out))
      clear ho hg hv hown hi1 hi2 hi3 hi4 b0 b1 b2 b3 b4 b5 b6
      go_wp2_with fail
      go_roundw
      case rel => exact ⟨k + 1, by omega, by go_num, HST⟩
      case measure => simp [intOf]; omega
    · obtain rfl : k = l.length := by omega
      obtain ⟨xs, hx, ha, hB⟩ := HK.out
      have HX := Lib.hid hx; have HA := Lib.hid ha
      obtain ⟨i0, hi1, hi2, hi3, hi4⟩ := info_parts infoF
      have HZ := Lib.hid hzW; have HZR := Lib.hid hzr
      clear ha hB hzW
      go_wp2_with (at_builtin; refine wpList_append_own _ rfl (.tmp 26) (.tmp 28) 22 rfl W.heap.size 46 i0 _ 7 72 Tryz.underlying22 hi1 hi2 hi3 hi4 rfl (by decide) _ l.length xs rfl (hx.alloc _) ⟨wr.heap.size, 0, none⟩ 1 1 markF rfl rfl ?d6 ?d7 ?d8 ?d9 ?d10 ?_)
      case d6 => intro j u hu; exact cells_new wr markF _ j u hu
      case d7 => intro u hu; simp only [markF, List.mem_cons, List.not_mem_nil, or_false] at hu; rcases hu with rfl | rfl | rfl | rfl | rfl | rfl | rfl <;> rfl
      case d8 => unfold maxLen; omega
      case d9 => omega
      case d10 => simp; omega
      intro v' w4 ho hg _
      rcases ho.2 with ⟨_, h0⟩ | ⟨g, cap', cur, rfl, hB', hgg, hn, hm', hcs, ht⟩
      · omega
      have HE := Lib.hid (lentRow_end fcells_len lent_seven HX.out HA.out HKB.out (HKB.out.trans (Below.refl _ _) |> fun _ => (Below.refl _ wr).alloc (Nat.le_refl _) _) ho hn hm' hg)
      have hmm := hm'
      unfold maxLen at hmm
      have hzz := HZ.out
      have hne : ∀ b, b < W.heap.size → some b ≠ u3.ownBlock := fun b hb e => by have := (HX.out.lt b e.symm).1; omega
      have BX := Lib.hid ((BW.out.alloc _).grown hg (hne _ (by omega)))
      have BY := Lib.hid (((BB.out.below HKB.out (by omega)).alloc _).grown hg (hne _ (by omega)))
      have x0 : w4.cell? ⟨w.heap.size, 0, none⟩ = some (.slice A l.length cap) := BX.out.cell 0
      have y0 : w4.cell? ⟨w.heap.size + 1, 0, none⟩ = some (.slice none 0 0) := BY.out.cell 0
      have yf : w4.frozen? ⟨w.heap.size + 1, 0, none⟩ = false := BY.out.frozen 0
      clear hne
      clear ho hg hgg hcs ht hx hi1 hi2 hi3 hi4 hB' hm'
      go_wp2_with fail
      have y1 : (w4.setCell ⟨w.heap.size + 1, 0, none⟩ (.slice (some ⟨g, 0, none⟩) l.length cap')).cell? ⟨w.heap.size + 1, 0, none⟩ = some (.slice (some ⟨g, 0, none⟩) l.length cap') := (BY.out.set_ 0 (.slice (some ⟨g, 0, none⟩) l.length cap')).cell 0
      refine bodyPost_ret (v := .agg #[.slice (some ⟨g, 0, none⟩) l.length cap']) (by simp [results, Tryz.results5, go_sem, y1]) rfl ?_
      refine ⟨_, rfl, At.keep (fun p hp => World.cell?_setCell_other _ _ _ _ (by intro e; subst e; have := hp.1; simp at this; omega)) (fun r hr => ⟨by omega, by have := hr.2; simpa [World.setCell] using this⟩) HE.out.1, (HB.out.trans (HE.out.2.mono (by omega))).setCell (by simp) _⟩
end Go.Proofs.YtinmiekbhoemjaaGreatDoor.Sch
end
