/- Contracts: two rows of integers compared. Contracts: what is lent, in memory of its own with a mark behind each list; is it as it was? Rows of integers. Small laws for queries compared part by part. Contract: query.Depth. -/
import Derived.Test.YtinmiekbhoemjaaGreatDoorPack7
import Derived.Deep.QuietTactic
import Derived.BigQuiet
import Derived.StillTailTactics
import Derived.LoopTactic
import Derived.Test.YtinmiekbhoemjaaGreatDoorPack1
import Derived.Test.YtinmiekbhoemjaaGreatDoorPack8
section
set_option linter.unusedVariables false
namespace Go.Proofs.YtinmiekbhoemjaaGreatDoor.Qry
open Go.RowKit Words Tree QryP Kit

def BoolB (b : Bool) (w : World) (e : Ending) (w' : World) : Prop := e = .returned (.bool b) ∧ Below w.heap.size w w'
/-- Element k of a row of integers that is read. -/
theorem reads_int {w : World} {B : Nat} {A : Option Addr} {l : List Int} {i : IntKind} (h : Reads w B 1 A l.length (l.map (Value.int i))) {k : Nat} (hk : k < l.length) :
    ∃ ad, A = some ad ∧ ad.block < B ∧ w.cell? (ad.add k) = some (.int i l[k]) := by
  obtain ⟨ad, e, hb, hc⟩ := h.2 (by omega)
  exact ⟨ad, e, hb, hc k _ (by simp [hk])⟩
theorem below_drewN' {w : World} (n : Nat) : Below w.heap.size w (w.drewN n) := ⟨rfl, rfl, rfl, Nat.le_refl _, fun _ _ => rfl⟩
theorem take_snoc {α : Type} {l : List α} {k : Nat} (h : k < l.length) : l.take (k + 1) = l.take k ++ [l[k]] := List.take_succ_eq_append_getElem h

set_option maxRecDepth 100000 in
theorem int64s_any (ao bo : Option Addr) (c d : Nat) (xs ys : List Int) (w : World) (ha : Reads w w.heap.size 1 ao xs.length (xs.map (Value.int .i64))) (hb : Reads w w.heap.size 1 bo ys.length (ys.map (Value.int .i64))) (hla : xs.length * 8 ≤ 140737488351232) (hlb : ys.length * 8 ≤ 140737488351232) (r : Bool) (hr : r = true ↔ xs = ys) :
    Calls Tryz.prog 44 #[.slice ao xs.length c, .slice bo ys.length d] w (BoolB r w) := by
  have HA := Lib.hid ha; have HB := Lib.hid hb; have HR := Lib.hid hr
  clear ha hb hr
  by_cases hl : xs.length = ys.length
  · have HL := Lib.hid hl
    have hbne : ((xs.length : Int) != (ys.length : Int)) = false := by rw [hl]; simp
    clear hl
    go_enter Tryz.func44, Tryz.ntmps44
    go_wp2_with fail
    go_loopw [5] (fun i wr => ∃ (k m : Nat), k ≤ xs.length ∧ i = .int .i64 k ∧ Hid (xs.take k = ys.take k) ∧ wr = w.drewN m) (fun i _ => xs.length - (intOf i).toNat)
    case atStart => exact ⟨0, 0, by omega, rfl, Lib.hid (by simp), rfl⟩
    case round =>
      obtain ⟨k, m, hk, rfl, HE, rfl⟩ := hrel
      by_cases hlt : k < xs.length
      · have hlt2 : k < ys.length := by have := HL.out; omega
        obtain ⟨ad, rfl, hba, a0⟩ := reads_int HA.out hlt
        obtain ⟨bd, rfl, hbb, b0⟩ := reads_int HB.out hlt2
        have HST : Hid (xs.take (k + 1) = xs.take k ++ [xs[k]] ∧ ys.take (k + 1) = ys.take k ++ [ys[k]]) := Lib.hid ⟨take_snoc hlt, take_snoc hlt2⟩
        have HNE : Hid (¬ xs[k] = ys[k] → r = false) := Lib.hid (fun h => by
          cases hr0 : r with
          | false => rfl
          | true =>
            have e := HR.out.1 hr0
            subst e
            exact absurd rfl h)
        by_cases he : xs[k] = ys[k]
        · have HQ := Lib.hid he
          rw [← he] at b0
          clear he HNE
          generalize hx : xs[k] = x at *
          clear hx
          go_wp2_with fail
          go_quiet (fail)
          go_wp2_with fail
          go_roundw
          case rel => exact ⟨k + 1, _, by omega, by go_num, Lib.hid (by rw [HST.out.1, HST.out.2, HE.out, ← HQ.out]), by first | rfl | (rw [World.drewN_drewN])⟩
          case measure => simp [intOf]; omega
        · have HRF := Lib.hid (HNE.out he)
          have hne : (xs[k] != ys[k]) = true := by rw [bne_iff_ne]; exact he
          clear he HNE HST
          generalize xs[k] = x at *
          generalize ys[k] = y at *
          go_wp2_with fail
          go_quiet (fail)
          go_wp2_with fail
          go_ret
          rw [HRF.out]
          exact ⟨rfl, ⟨rfl, rfl, rfl, Nat.le_refl _, fun _ _ => rfl⟩⟩
      · obtain rfl : k = xs.length := by omega
        have hT : r = true := by
          rw [HR.out]
          have := HE.out
          rw [List.take_of_length_le (Nat.le_refl _), HL.out, List.take_of_length_le (Nat.le_refl _)] at this
          exact this
        have HRT := Lib.hid hT
        clear hT
        go_wp2_with fail
        go_ret
        rw [HRT.out]
        exact ⟨rfl, below_drewN' _⟩
  · have hbne : ((xs.length : Int) != (ys.length : Int)) = true := by rw [bne_iff_ne]; omega
    have HRF : Hid (r = false) := Lib.hid (by
      cases hr0 : r with
      | false => rfl
      | true => exact absurd (by rw [HR.out.1 hr0]) hl)
    clear hl
    go_enter Tryz.func44, Tryz.ntmps44
    go_wp2_with fail
    go_ret
    rw [HRF.out]
    exact ⟨rfl, Below.refl _ _⟩

end Go.Proofs.YtinmiekbhoemjaaGreatDoor.Qry
end
section
set_option linter.unusedVariables false
namespace Go.Proofs.YtinmiekbhoemjaaGreatDoor.Qry
open Go.RowKit Words Tree QryP Kit Owned

/-- The mark behind a row of queries. -/
def markQ : List Value := [.int .i64 (-71), .int .i64 0, .string ⟨#[]⟩, .string ⟨#[]⟩, .string ⟨#[]⟩, .slice none 0 0, .slice none 0 0, .int .i64 0, .int .i64 0, .slice none 0 0]
/-- What lies behind lists that are lent. -/
def lent : Nat → List (List Value) := fun s => if s = 1 then [[.int .i64 (-7171)]] else if s = 10 then [markQ] else []
theorem lent_one : lent 1 = [[.int .i64 (-7171)]] := rfl
theorem lent_ten : lent 10 = [markQ] := rfl

theorem infoI64 : (Tryz.prog.info? 2).map (fun i => (i.zero, i.size, i.bytes)) = some (some (.int .i64 0), 1, 8) := by kernel_rfl
theorem infoQ : (Tryz.prog.info? 28).map (fun i => (i.zero, i.size, i.bytes)) = some (some (.agg #[.int .i64 0, .int .i64 0, .string ⟨#[]⟩, .string ⟨#[]⟩, .string ⟨#[]⟩, .slice none 0 0, .slice none 0 0, .int .i64 0, .int .i64 0, .slice none 0 0]), 10, 152) := by kernel_rfl

theorem cells_new (w : World) (l : List Value) (t : TypeId) (j : Nat) (u : Value) (h : l[j]? = some u) : (w.alloc (.cells l.toArray t)).cell? ((⟨w.heap.size, 0, none⟩ : Addr).add j) = some u := by
  have e : (⟨w.heap.size, 0, none⟩ : Addr).add j = ⟨w.heap.size, j, none⟩ := by unfold Addr.add; split <;> simp_all
  rw [e, World.cell?_alloc_new]; simpa using h

/-- Lent, in memory that lay not there before. -/
def LentT (t : T) (w : World) (e : Ending) (w' : World) : Prop := ∃ v, e = .returned v ∧ T.At lent w' (fun g => w.heap.size ≤ g ∧ g < w'.heap.size) t v ∧ Below w.heap.size w w'

set_option maxRecDepth 100000 in
theorem lent64_any (A : Option Addr) (c : Nat) (l : List Int) (w : World) (hr : Reads w w.heap.size 1 A l.length (l.map (Value.int .i64))) (hl : l.length * 8 ≤ 140737488351232) :
    Calls Tryz.prog 10 #[.slice A l.length c] w (LentT (intsT .i64 l) w) := by
  obtain ⟨i0, hi, hz0, hz1, hz2⟩ := info_parts infoI64
  go_enter Tryz.func10, Tryz.ntmps10
  go_wp2_with (at_builtin; refine wpList_append_any _ rfl (.tmp 4) (.tmp 5) 25 rfl w.heap.size 2 i0 (.int .i64 0) 1 8 Tryz.underlying25 hi hz0 hz1 hz2 rfl (by decide) (.slice none 0 0) 0 [] rfl (World.ownsRow_nil _ _ _ _) w.heap.size A l.length c (l.map (Value.int .i64)) rfl hr ?c2 ?c3 ?c4 ?c5 ?_)
  case c2 => intro u hu; obtain ⟨z, _, rfl⟩ := List.mem_map.1 hu; rfl
  case c3 => unfold maxLen; omega
  case c4 => omega
  case c5 => exact Nat.le_refl _
  intro v1 w1 ho1 hg1 _
  have hb1 : Below w.heap.size w w1 := (Below.refl _ w).grown hg1 (Nat.le_refl _) (fun r e => by cases e)
  replace ho1 : w1.ownsRow w.heap.size 2 1 v1 l.length (l.map (Value.int .i64)) := by simpa using ho1
  have HB1 := Lib.hid hb1
  have hsz1 := hb1.size
  clear hg1 hb1
  go_wp2_with (at_builtin; refine wpList_append_own _ rfl (.tmp 7) (.tmp 8) 25 rfl w.heap.size 2 i0 (.int .i64 0) 1 8 Tryz.underlying25 hi hz0 hz1 hz2 rfl (by decide) _ l.length (l.map (Value.int .i64)) rfl (ho1.alloc _) ⟨w1.heap.size, 0, none⟩ 1 1 [.int .i64 (-7171)] rfl rfl ?d1 ?d2 ?d3 ?d4 ?d5 ?_)
  case d1 => intro j u hu; exact cells_new _ _ _ j u hu
  case d2 => intro u hu; simp at hu; subst hu; rfl
  case d3 => unfold maxLen; omega
  case d4 => omega
  case d5 => simp; omega
  intro v2 w2 ho2 hg2 _
  have hb2 : Below w.heap.size w w2 := (HB1.out.alloc HB1.out.size _).grown hg2 (by simp; omega) (fun r e => (ho1.lt r e).1)
  have HB2 := Lib.hid hb2
  rcases ho2.2 with ⟨_, h0⟩ | ⟨g, cap, cur, rfl, hB, hgg, hn, hm, hcs, ht⟩
  · omega
  · have HOW := Lib.hid (ho2.cells (g := g) rfl)
    have HG : Hid (g < w2.heap.size) := Lib.hid (Array.getElem?_eq_some_iff.1 hgg).1
    have hm' := hm
    unfold maxLen at hm'
    clear hg2 hb2 ho1 hr hgg hcs ht ho2
    go_wp2_with fail
    go_ret
    refine ⟨_, rfl, ?_, HB2.out⟩
    simp only [intsT, T.At]
    refine ⟨_, cap, l.map (Value.int .i64), rfl, by simp [lent_one]; omega, hm, by simp, fun _ => ⟨_, rfl, ⟨hB, HG.out⟩, ?_⟩, AtL.of_lits⟩
    rw [lent_one]
    exact HOW.out

/-- A row of integers that was lent is as it was. -/
theorem at_lent_ints {w : World} {S : Nat → Prop} {l : List Int} {v : Value} (h : T.At lent w S (intsT .i64 l) v) :
    ∃ ad cap, v = .slice (some ad) l.length cap ∧ l.length + 1 ≤ cap ∧ cap ≤ maxLen ∧ S ad.block ∧ w.cell? (ad.add l.length) = some (.int .i64 (-7171)) := by
  simp only [intsT, T.At] at h
  obtain ⟨A, cap, vs, hv, hc, hm, hl, ha, hx⟩ := h
  rw [lent_one] at hc ha
  obtain ⟨ad, rfl, hs, hcs⟩ := ha (by simp)
  obtain rfl := AtL.lits hx
  refine ⟨ad, cap, hv, hc, hm, hs, ?_⟩
  have := hcs.right.zero
  rwa [List.length_map] at this

set_option maxRecDepth 100000 in
theorem kept64_any (v : Value) (A : Option Addr) (c : Nat) (l m : List Int) (w : World) (hv : T.At lent w (fun g => g < w.heap.size) (intsT .i64 l) v) (hr : Reads w w.heap.size 1 A m.length (m.map (Value.int .i64))) (hl : l.length * 8 ≤ 140737488351232) (hml : m.length * 8 ≤ 140737488351232) (r : Bool) (hq : r = true ↔ l = m) :
    Calls Tryz.prog 26 #[v, .slice A m.length c] w (BoolB r w) := by
  obtain ⟨ad, cap, rfl, hc, hm, hs, hcell⟩ := at_lent_ints hv
  obtain ⟨_, _, he, _, _, hrl⟩ := at_ints (At.bare hv)
  injection he with e1 e2 e3
  subst e1 e3
  have HC := int64s_any _ _ cap c l m w hrl hr hl hml r hq
  have hm' := hm
  unfold maxLen at hm'
  have HQ := Lib.hid hq; have HV := Lib.hid hv; have HR := Lib.hid hr; have HRL := Lib.hid hrl
  clear hq hv hr hrl
  have HCC := Lib.hid hcell; clear hcell
  cases r with
  | false =>
    go_enter Tryz.func26, Tryz.ntmps26
    go_wp2_with fail
    refine HC.mono ?_
    rintro e w1 ⟨rfl, b1⟩
    have B1 := Lib.hid b1; clear b1
    go_wp2_with fail
    go_ret
    exact ⟨rfl, B1.out⟩
  | true =>
    go_enter Tryz.func26, Tryz.ntmps26
    go_wp2_with fail
    refine HC.mono ?_
    rintro e w1 ⟨rfl, b1⟩
    have hcell : w1.cell? (ad.add l.length) = some (.int .i64 (-7171)) := (b1.cell (by rw [block_of_add]; exact hs)).trans HCC.out
    have B1 := Lib.hid b1; clear b1
    go_wp2_with fail
    go_ret
    exact ⟨rfl, B1.out⟩
end Go.Proofs.YtinmiekbhoemjaaGreatDoor.Qry
end
section
set_option linter.unusedVariables false
namespace Go.Proofs.YtinmiekbhoemjaaGreatDoor.Qry
open Go.RowKit Words Tree QryP Kit Owned

theorem bne_int {a b : Int} (h : ¬ a = b) : (a != b) = true ∧ (a == b) = false := ⟨by rw [bne_iff_ne]; exact h, by rw [beq_eq_false_iff_ne]; exact h⟩
theorem bne_str {a b : ByteArray} (h : ¬ a = b) : (a.toList != b.toList) = true ∧ (a.toList == b.toList) = false := by
  have : ¬ a.toList = b.toList := fun e => by
    rw [ByteArray.toList_eq, ByteArray.toList_eq] at e
    exact h (ByteArray.ext (Array.toList_inj.1 e))
  exact ⟨by rw [bne_iff_ne]; exact this, by rw [beq_eq_false_iff_ne]; exact this⟩
theorem below2 {w : World} (o1 o2 : Obj) : Below w.heap.size w ((w.alloc o1).alloc o2) := ((Below.refl _ _).alloc (Nat.le_refl _) _).alloc (by simp) _
theorem blk_a (w : World) (cs ds : Array Value) (t t' : TypeId) : Blk ((w.alloc (.cells cs t)).alloc (.cells ds t')) w.heap.size t cs := (Blk.new w t cs).alloc _
theorem blk_b (w : World) (cs ds : Array Value) (t t' : TypeId) : Blk ((w.alloc (.cells cs t)).alloc (.cells ds t')) (w.heap.size + 1) t' ds := by
  have := Blk.new (w.alloc (.cells cs t)) t' ds
  rwa [World.size_alloc] at this
theorem blk10 {w : World} {g : Nat} {t : TypeId} {v0 v1 v2 v3 v4 v5 v6 v7 v8 v9 : Value} (h : Blk w g t #[v0, v1, v2, v3, v4, v5, v6, v7, v8, v9]) :
    w.cell? ⟨g, 0, none⟩ = some v0 ∧ w.cell? ⟨g, 1, none⟩ = some v1 ∧ w.cell? ⟨g, 2, none⟩ = some v2 ∧ w.cell? ⟨g, 3, none⟩ = some v3 ∧ w.cell? ⟨g, 4, none⟩ = some v4 ∧ w.cell? ⟨g, 5, none⟩ = some v5 ∧ w.cell? ⟨g, 6, none⟩ = some v6 ∧ w.cell? ⟨g, 7, none⟩ = some v7 ∧ w.cell? ⟨g, 8, none⟩ = some v8 ∧ w.cell? ⟨g, 9, none⟩ = some v9 :=
  ⟨h.cell 0, h.cell 1, h.cell 2, h.cell 3, h.cell 4, h.cell 5, h.cell 6, h.cell 7, h.cell 8, h.cell 9⟩
/-- Ten cells, as the walk spells them. -/
theorem ten {w : World} {ad : Addr} {v0 v1 v2 v3 v4 v5 v6 v7 v8 v9 : Value} (h : Cells w ad [v0, v1, v2, v3, v4, v5, v6, v7, v8, v9]) :
    w.cell? ad = some v0 ∧ w.cell? ⟨ad.block, ad.off + 1, none⟩ = some v1 ∧ w.cell? ⟨ad.block, ad.off + 2, none⟩ = some v2 ∧ w.cell? ⟨ad.block, ad.off + 3, none⟩ = some v3 ∧ w.cell? ⟨ad.block, ad.off + 4, none⟩ = some v4 ∧
    w.cell? ⟨ad.block, ad.off + 5, none⟩ = some v5 ∧ w.cell? ⟨ad.block, ad.off + 6, none⟩ = some v6 ∧ w.cell? ⟨ad.block, ad.off + 7, none⟩ = some v7 ∧ w.cell? ⟨ad.block, ad.off + 8, none⟩ = some v8 ∧ w.cell? ⟨ad.block, ad.off + 9, none⟩ = some v9 :=
  ⟨h.zero, h.at_ 1 _ rfl (by omega), h.at_ 2 _ rfl (by omega), h.at_ 3 _ rfl (by omega), h.at_ 4 _ rfl (by omega), h.at_ 5 _ rfl (by omega), h.at_ 6 _ rfl (by omega), h.at_ 7 _ rfl (by omega), h.at_ 8 _ rfl (by omega), h.at_ 9 _ rfl (by omega)⟩
theorem take_all {α : Type} {l m : List α} (h : l.take l.length = m.take l.length) (hl : l.length = m.length) : l = m := by
  rw [List.take_of_length_le (Nat.le_refl _), hl, List.take_of_length_le (Nat.le_refl _)] at h
  exact h
theorem ne_kid {ks js : List QT} {k : Nat} (h1 : k < ks.length) (h2 : k < js.length) (h : ¬ ks[k] = js[k]) : ¬ ks = js := fun e => by subst e; exact h rfl
theorem bool_cases {b : Bool} {p : Prop} (h : b = true ↔ p) : (p ∧ b = true) ∨ (¬ p ∧ b = false) := by cases b <;> simp_all
end Go.Proofs.YtinmiekbhoemjaaGreatDoor.Qry
end
section
set_option linter.unusedVariables false
namespace Go.Proofs.YtinmiekbhoemjaaGreatDoor.Qry
open Go.RowKit Words Tree QryP Kit Sch

theorem atL_ltw {w W : World} {q : QT} {us : List Value} (h : T.AtL bare w (fun g => g < w.heap.size) (cells q) us) (hb : Below w.heap.size w W) : T.AtL bare W (fun g => g < W.heap.size) (cells q) us :=
  AtL.below h hb (fun g hg => Nat.lt_of_lt_of_le hg hb.size)
theorem at_sl {sent : Nat → List (List Value)} {w : World} {S : Nat → Prop} {s n : Nat} {xs : List T} {v : Value} (h : T.At sent w S (.arr s n xs) v) : ∃ A cap, v = .slice A n cap := by
  simp only [T.At] at h
  obtain ⟨A, cap, _, hv, _⟩ := h
  exact ⟨A, cap, hv⟩
end Go.Proofs.YtinmiekbhoemjaaGreatDoor.Qry
end
