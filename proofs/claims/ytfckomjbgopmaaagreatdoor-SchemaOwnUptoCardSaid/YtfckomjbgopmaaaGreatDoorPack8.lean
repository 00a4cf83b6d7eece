/- Contracts: the program's and the document's Name. Contracts: rows of integers that are lent, as trees, with the mark behind each. Contracts: rows of integers compared, and kept. -/
import Derived.Test.YtfckomjbgopmaaaGreatDoorPack2
import Derived.Test.YtfckomjbgopmaaaGreatDoorWords
import Derived.Test.YtfckomjbgopmaaaGreatDoorPack7
import Derived.Test.YtfckomjbgopmaaaGreatDoorProg
import Derived.Lib.Hide
import Derived.Lib.ConvBytes
import Derived.WalkKit
import Derived.ProofKit
import Derived.LoopTactic
import Derived.Deep.QuietTactic
import Derived.BigQuiet
import Derived.StillTailTactics
section
set_option linter.unusedVariables false
namespace Go.Proofs.YtfckomjbgopmaaaGreatDoor.Sch
open Go.RowKit Go.Lib Words Kit SchP

/-- A bool is answered. -/
def AnsB (b : Bool) (w : World) (e : Ending) (w' : World) : Prop := e = .returned (.bool b) ∧ Below w.heap.size w w'
theorem below_bytesWorld (w : World) (e : TypeId) (s : ByteArray) : Below w.heap.size w (bytesWorld w e s) := by
  refine ⟨rfl, rfl, rfl, by rw [bytesWorld_size]; omega, fun k hk => bytesWorld_at_old w e s k hk⟩
theorem byteB_cases (i : Nat) (c : UInt8) : byteB i c = true ∧ ((97 ≤ (c.toNat : Int) ∧ (c.toNat : Int) ≤ 122) ∨ (c.toNat : Int) = 95 ∨ ((0 : Int) < i ∧ 48 ≤ (c.toNat : Int) ∧ (c.toNat : Int) ≤ 57))
    ∨ byteB i c = false ∧ ¬ ((97 ≤ (c.toNat : Int) ∧ (c.toNat : Int) ≤ 122) ∨ (c.toNat : Int) = 95 ∨ ((0 : Int) < i ∧ 48 ≤ (c.toNat : Int) ∧ (c.toNat : Int) ≤ 57)) := by
  cases h : byteB i c with
  | true =>
    left
    simp only [byteB, Bool.or_eq_true, Bool.and_eq_true, decide_eq_true_eq] at h
    exact ⟨rfl, by omega⟩
  | false =>
    right
    simp only [byteB, Bool.or_eq_false_iff, Bool.and_eq_false_iff, decide_eq_false_iff_not] at h
    exact ⟨rfl, by omega⟩

set_option maxRecDepth 100000 in
set_option maxHeartbeats 1000000 in
theorem name_any (s : ByteArray) (w : World) (hs : s.size ≤ 140737488351232) : Calls Tryz.prog 75 #[.string s] w (AnsB (nameB s) w) := by
  have hcv := Go.Lib.run_convert_string_bytes (P := Tryz.prog) w 9 109 5 s (u := .string) Tryz.underlying9 Tryz.underlying109 Tryz.underlying5
  have HB := Lib.hid (below_bytesWorld w 5 s)
  have HC := Lib.hid (bytesWorld_cell w 5 s)
  have hz := bytesWorld_size w 5 s
  have hln : s.data.toList.length = s.size := by simp
  obtain ⟨r, hr⟩ : ∃ r, bytesB 0 s.data.toList = r := ⟨_, rfl⟩
  have HR : Hid (bytesB 0 (s.data.toList.drop 0) = r) := Lib.hid hr
  have HN : Hid (nameB s = (r && decide (1 ≤ s.size) && decide (s.size ≤ 24))) := Lib.hid (by rw [nameB, hr])
  clear hr
  generalize bytesWorld w 5 s = W at *
  go_enter Tryz.func75, Tryz.ntmps75
  go_wp2_with fail
  go_loop [3, 4, 8] (fun _ _ i => ∃ k : Nat, k ≤ s.size ∧ i = .int .i64 k ∧ Hid (bytesB k (s.data.toList.drop k) = r)) (fun _ _ i => s.size - (RowKit.intOf i).toNat)
  case atStart => exact ⟨0, by omega, rfl, HR⟩
  case round =>
    obtain ⟨k, hk, rfl, HE⟩ := hrel
    by_cases hlt : k < s.size
    · have hc := HC.out k hlt
      have HS : Hid (bytesB k (s.data.toList.drop k) = (byteB k (s.data.toList.getD k 0) && bytesB (k + 1) (s.data.toList.drop (k + 1)))) := Lib.hid (by rw [bytesB_step (by omega), List.getD_eq_getElem?_getD, List.getElem?_eq_getElem (by omega)]; rfl)
      have hcs := byteB_cases k (s.data.toList.getD k 0)
      have hlc := (s.data.toList.getD k 0).toNat_lt
      have hc2 : W.cell? ⟨w.heap.size, 0 + k, none⟩ = some (.int .u8 (s.data.toList.getD k 0).toNat) := by rw [Nat.zero_add]; exact hc
      generalize s.data.toList.getD k 0 = c at *
      generalize hcn : c.toNat = n at *
      rcases hcs with ⟨hb, hcs⟩ | ⟨hb, hcs⟩
      · have HE2 : Hid (bytesB (k + 1) (s.data.toList.drop (k + 1)) = r) := Lib.hid (by rw [← HE.out, HS.out, hb]; rfl)
        clear hb HS
        rcases (show (97 ≤ (n : Int) ∧ (n : Int) ≤ 122) ∨ (n : Int) = 95 ∨ ((n : Int) < 95 ∧ (0 : Int) < k ∧ 48 ≤ (n : Int) ∧ (n : Int) ≤ 57) by omega) with ⟨h1, h2⟩ | h1 | ⟨h0', h1, h2, h3⟩
        · have d1 : decide (97 ≤ (n : Int)) = true := by simpa using h1
          have d2 : decide ((n : Int) ≤ 122) = true := by simpa using h2
          go_wp2_with fail
          go_round
          case rel => exact ⟨k + 1, by omega, by go_num, HE2⟩
          case measure => simp [RowKit.intOf]; omega
        · have d1 : decide (97 ≤ (n : Int)) = false := by rw [decide_eq_false_iff_not]; omega
          have d2 : ((n : Int) == 95) = true := by rw [h1]; rfl
          go_wp2_with fail
          go_round
          case rel => exact ⟨k + 1, by omega, by go_num, HE2⟩
          case measure => simp [RowKit.intOf]; omega
        · have d1 : decide (97 ≤ (n : Int)) = false := by rw [decide_eq_false_iff_not]; omega
          have d2 : ((n : Int) == 95) = false := by rw [beq_eq_false_iff_ne]; omega
          have d3 : decide ((0 : Int) < k) = true := by simpa using h1
          have d4 : decide (48 ≤ (n : Int)) = true := by simpa using h2
          have d5 : decide ((n : Int) ≤ 57) = true := by simpa using h3
          go_wp2_with fail
          go_round
          case rel => exact ⟨k + 1, by omega, by go_num, HE2⟩
          case measure => simp [RowKit.intOf]; omega
      · have HA : Hid (nameB s = false) := Lib.hid (by rw [HN.out, ← HE.out, HS.out, hb]; rfl)
        clear hb HS
        rcases (show ((n : Int) < 97 ∧ (n : Int) ≠ 95 ∧ (k : Int) ≤ 0) ∨ ((n : Int) < 97 ∧ (n : Int) ≠ 95 ∧ 0 < k ∧ (n : Int) < 48) ∨ ((n : Int) < 97 ∧ (n : Int) ≠ 95 ∧ 0 < k ∧ 57 < (n : Int)) ∨ (122 < (n : Int) ∧ (k : Int) ≤ 0) ∨ (122 < (n : Int) ∧ 0 < k) by omega) with ⟨q1, q2, q3⟩ | ⟨q1, q2, q3, q4⟩ | ⟨q1, q2, q3, q4⟩ | ⟨q1, q2⟩ | ⟨q1, q2⟩
        · have d1 : decide (97 ≤ (n : Int)) = false := by rw [decide_eq_false_iff_not]; omega
          have d3 : ((n : Int) == 95) = false := by rw [beq_eq_false_iff_ne]; omega
          have d4 : decide ((0 : Int) < k) = false := by rw [decide_eq_false_iff_not]; omega
          go_wp2_with fail
          go_ret
          rw [HA.out]; exact ⟨rfl, HB.out⟩
        · have d1 : decide (97 ≤ (n : Int)) = false := by rw [decide_eq_false_iff_not]; omega
          have d3 : ((n : Int) == 95) = false := by rw [beq_eq_false_iff_ne]; omega
          have d4 : decide ((0 : Int) < k) = true := by rw [decide_eq_true_iff]; omega
          have d5 : decide (48 ≤ (n : Int)) = false := by rw [decide_eq_false_iff_not]; omega
          go_wp2_with fail
          go_ret
          rw [HA.out]; exact ⟨rfl, HB.out⟩
        · have d1 : decide (97 ≤ (n : Int)) = false := by rw [decide_eq_false_iff_not]; omega
          have d3 : ((n : Int) == 95) = false := by rw [beq_eq_false_iff_ne]; omega
          have d4 : decide ((0 : Int) < k) = true := by rw [decide_eq_true_iff]; omega
          have d5 : decide (48 ≤ (n : Int)) = true := by rw [decide_eq_true_iff]; omega
          have d6 : decide ((n : Int) ≤ 57) = false := by rw [decide_eq_false_iff_not]; omega
          go_wp2_with fail
          go_ret
          rw [HA.out]; exact ⟨rfl, HB.out⟩
        · have d1 : decide (97 ≤ (n : Int)) = true := by rw [decide_eq_true_iff]; omega
          have d2 : decide ((n : Int) ≤ 122) = false := by rw [decide_eq_false_iff_not]; omega
          have d3 : ((n : Int) == 95) = false := by rw [beq_eq_false_iff_ne]; omega
          have d4 : decide ((0 : Int) < k) = false := by rw [decide_eq_false_iff_not]; omega
          go_wp2_with fail
          go_ret
          rw [HA.out]; exact ⟨rfl, HB.out⟩
        · have d1 : decide (97 ≤ (n : Int)) = true := by rw [decide_eq_true_iff]; omega
          have d2 : decide ((n : Int) ≤ 122) = false := by rw [decide_eq_false_iff_not]; omega
          have d3 : ((n : Int) == 95) = false := by rw [beq_eq_false_iff_ne]; omega
          have d4 : decide ((0 : Int) < k) = true := by rw [decide_eq_true_iff]; omega
          have d5 : decide (48 ≤ (n : Int)) = true := by rw [decide_eq_true_iff]; omega
          have d6 : decide ((n : Int) ≤ 57) = false := by rw [decide_eq_false_iff_not]; omega
          go_wp2_with fail
          go_ret
          rw [HA.out]; exact ⟨rfl, HB.out⟩
    · obtain rfl : k = s.size := by omega
      have HF : Hid (r = true) := Lib.hid (by rw [← HE.out, ← hln, List.drop_length]; rfl)
      have hlt2 : ¬ s.size < s.size := by omega
      by_cases h1 : 1 ≤ s.size
      · by_cases h2 : s.size ≤ 24
        · have HA : Hid (nameB s = true) := Lib.hid (by rw [HN.out, HF.out, decide_eq_true h1, decide_eq_true h2]; rfl)
          have d1 : decide (1 ≤ (s.size : Int)) = true := by rw [decide_eq_true_iff]; omega
          have d2 : decide ((s.size : Int) ≤ 24) = true := by rw [decide_eq_true_iff]; omega
          go_wp2_with fail
          go_ret
          rw [HA.out]; exact ⟨rfl, HB.out⟩
        · have HA : Hid (nameB s = false) := Lib.hid (by rw [HN.out, HF.out, decide_eq_true h1, decide_eq_false h2]; rfl)
          have d1 : decide (1 ≤ (s.size : Int)) = true := by rw [decide_eq_true_iff]; omega
          have d2 : decide ((s.size : Int) ≤ 24) = false := by rw [decide_eq_false_iff_not]; omega
          go_wp2_with fail
          go_ret
          rw [HA.out]; exact ⟨rfl, HB.out⟩
      · have HA : Hid (nameB s = false) := Lib.hid (by rw [HN.out, HF.out, decide_eq_false h1]; rfl)
        have d1 : decide (1 ≤ (s.size : Int)) = false := by rw [decide_eq_false_iff_not]; omega
        go_wp2_with fail
        go_ret
        rw [HA.out]; exact ⟨rfl, HB.out⟩
end Go.Proofs.YtfckomjbgopmaaaGreatDoor.Sch
end
section
set_option linter.unusedVariables false
namespace Go.Proofs.YtfckomjbgopmaaaGreatDoor.Sch
open Go.RowKit Words Tree SchP Kit Owned

/-- The marks behind rows of fields and of entries. -/
def markF : List Value := [.string ⟨#[109, 97, 114, 107]⟩, .int .i64 0, .slice none 0 0, .int .i64 0, .int .i64 0, .bool false, .bool false]
def markE : List Value := [.string ⟨#[109, 97, 114, 107]⟩, .string ⟨#[]⟩, .slice none 0 0]
def lent : Nat → List (List Value) := fun s => if s = 1 then [[.int .i64 (-7171)]] else if s = 7 then [markF] else if s = 3 then [markE] else []
theorem lent_one : lent 1 = [[.int .i64 (-7171)]] := rfl
theorem lent_seven : lent 7 = [markF] := rfl
theorem lent_three : lent 3 = [markE] := rfl
theorem infoI64 : (Tryz.prog.info? 2).map (fun i => (i.zero, i.size, i.bytes)) = some (some (.int .i64 0), 1, 8) := by kernel_rfl
theorem infoInt : (Tryz.prog.info? 3).map (fun i => (i.zero, i.size, i.bytes)) = some (some (.int .i64 0), 1, 8) := by kernel_rfl
theorem infoF : (Tryz.prog.info? 54).map (fun i => (i.zero, i.size, i.bytes)) = some (some (.agg #[.string ⟨#[]⟩, .int .i64 0, .slice none 0 0, .int .i64 0, .int .i64 0, .bool false, .bool false]), 7, 72) := by kernel_rfl
theorem infoE : (Tryz.prog.info? 68).map (fun i => (i.zero, i.size, i.bytes)) = some (some (.agg #[.string ⟨#[]⟩, .string ⟨#[]⟩, .slice none 0 0]), 3, 56) := by kernel_rfl
theorem cells_new (w : World) (l : List Value) (t : TypeId) (j : Nat) (u : Value) (h : l[j]? = some u) : (w.alloc (.cells l.toArray t)).cell? ((⟨w.heap.size, 0, none⟩ : Addr).add j) = some u := by
  have e : (⟨w.heap.size, 0, none⟩ : Addr).add j = ⟨w.heap.size, j, none⟩ := by unfold Addr.add; split <;> simp_all
  rw [e, World.cell?_alloc_new]; simpa using h

/-- Lent, in memory that lay not there before. -/
def LentT (t : T) (w : World) (e : Ending) (w' : World) : Prop := ∃ v, e = .returned v ∧ T.At lent w' (fun g => w.heap.size ≤ g ∧ g < w'.heap.size) t v ∧ Below w.heap.size w w'

set_option maxRecDepth 100000 in
theorem lent64_any (A : Option Addr) (c : Nat) (l : List Int) (w : World) (hr : Reads w w.heap.size 1 A l.length (l.map (Value.int .i64))) (hl : l.length * 8 ≤ 140737488351232) :
    Calls Tryz.prog 30 #[.slice A l.length c] w (LentT (numsT .i64 l) w) := by
  obtain ⟨i0, hi, hz0, hz1, hz2⟩ := info_parts infoI64
  go_enter Tryz.func30, Tryz.ntmps30
  go_wp2_with (at_builtin; refine wpList_append_any _ rfl (.tmp 4) (.tmp 5) 55 rfl w.heap.size 2 i0 (.int .i64 0) 1 8 Tryz.underlying55 hi hz0 hz1 hz2 rfl (by decide) (.slice none 0 0) 0 [] rfl (World.ownsRow_nil _ _ _ _) w.heap.size A l.length c (l.map (Value.int .i64)) rfl hr ?c2 ?c3 ?c4 ?c5 ?_)
  case c2 => intro u hu; obtain ⟨z, _, rfl⟩ := List.mem_map.1 hu; rfl
  case c3 => unfold maxLen; omega
  case c4 => omega
  case c5 => exact Nat.le_refl _
  intro v1 w1 ho1 hg1 _
  have hb1 : Below w.heap.size w w1 := (Below.refl _ w).grown hg1 (Nat.le_refl _) (fun r e => by cases e)
  replace ho1 : w1.ownsRow w.heap.size 2 1 v1 l.length (l.map (Value.int .i64)) := by simpa using ho1
  have HB1 := Lib.hid hb1
  have hsz1 := hb1.size
  clear hg1 hb1
  go_wp2_with (at_builtin; refine wpList_append_own _ rfl (.tmp 7) (.tmp 8) 55 rfl w.heap.size 2 i0 (.int .i64 0) 1 8 Tryz.underlying55 hi hz0 hz1 hz2 rfl (by decide) _ l.length (l.map (Value.int .i64)) rfl (ho1.alloc _) ⟨w1.heap.size, 0, none⟩ 1 1 [.int .i64 (-7171)] rfl rfl ?d1 ?d2 ?d3 ?d4 ?d5 ?_)
  case d1 => intro j u hu; exact cells_new _ _ _ j u hu
  case d2 => intro u hu; simp at hu; subst hu; rfl
  case d3 => unfold maxLen; omega
  case d4 => omega
  case d5 => simp; omega
  intro v2 w2 ho2 hg2 _
  have hb2 : Below w.heap.size w w2 := (HB1.out.alloc HB1.out.size _).grown hg2 (by simp; omega) (fun r e => (ho1.lt r e).1)
  have HB2 := Lib.hid hb2
  rcases ho2.2 with ⟨_, h0⟩ | ⟨g, cap, cur, rfl, hB, hgg, hn, hm, hcs, ht⟩
  · omega
  · have HOW := Lib.hid (ho2.cells (g := g) rfl)
    have HG : Hid (g < w2.heap.size) := Lib.hid (Array.getElem?_eq_some_iff.1 hgg).1
    have hm' := hm
    unfold maxLen at hm'
    clear hg2 hb2 ho1 hr hgg hcs ht ho2
    go_wp2_with fail
    go_ret
    refine ⟨_, rfl, ?_, HB2.out⟩
    simp only [numsT, T.At]
    refine ⟨_, cap, l.map (Value.int .i64), rfl, by simp [lent_one]; omega, hm, by simp, fun _ => ⟨_, rfl, ⟨hB, HG.out⟩, ?_⟩, AtL.of_lits⟩
    rw [lent_one]
    exact HOW.out

set_option maxRecDepth 100000 in
theorem lentInt_any (A : Option Addr) (c : Nat) (l : List Int) (w : World) (hr : Reads w w.heap.size 1 A l.length (l.map (Value.int .i64))) (hl : l.length * 8 ≤ 140737488351232) :
    Calls Tryz.prog 29 #[.slice A l.length c] w (LentT (numsT .i64 l) w) := by
  obtain ⟨i0, hi, hz0, hz1, hz2⟩ := info_parts infoInt
  go_enter Tryz.func29, Tryz.ntmps29
  go_wp2_with (at_builtin; refine wpList_append_any _ rfl (.tmp 4) (.tmp 5) 52 rfl w.heap.size 3 i0 (.int .i64 0) 1 8 Tryz.underlying52 hi hz0 hz1 hz2 rfl (by decide) (.slice none 0 0) 0 [] rfl (World.ownsRow_nil _ _ _ _) w.heap.size A l.length c (l.map (Value.int .i64)) rfl hr ?c2 ?c3 ?c4 ?c5 ?_)
  case c2 => intro u hu; obtain ⟨z, _, rfl⟩ := List.mem_map.1 hu; rfl
  case c3 => unfold maxLen; omega
  case c4 => omega
  case c5 => exact Nat.le_refl _
  intro v1 w1 ho1 hg1 _
  have hb1 : Below w.heap.size w w1 := (Below.refl _ w).grown hg1 (Nat.le_refl _) (fun r e => by cases e)
  replace ho1 : w1.ownsRow w.heap.size 3 1 v1 l.length (l.map (Value.int .i64)) := by simpa using ho1
  have HB1 := Lib.hid hb1
  have hsz1 := hb1.size
  clear hg1 hb1
  go_wp2_with (at_builtin; refine wpList_append_own _ rfl (.tmp 7) (.tmp 8) 52 rfl w.heap.size 3 i0 (.int .i64 0) 1 8 Tryz.underlying52 hi hz0 hz1 hz2 rfl (by decide) _ l.length (l.map (Value.int .i64)) rfl (ho1.alloc _) ⟨w1.heap.size, 0, none⟩ 1 1 [.int .i64 (-7171)] rfl rfl ?d1 ?d2 ?d3 ?d4 ?d5 ?_)
  case d1 => intro j u hu; exact cells_new _ _ _ j u hu
  case d2 => intro u hu; simp at hu; subst hu; rfl
  case d3 => unfold maxLen; omega
  case d4 => omega
  case d5 => simp; omega
  intro v2 w2 ho2 hg2 _
  have hb2 : Below w.heap.size w w2 := (HB1.out.alloc HB1.out.size _).grown hg2 (by simp; omega) (fun r e => (ho1.lt r e).1)
  have HB2 := Lib.hid hb2
  rcases ho2.2 with ⟨_, h0⟩ | ⟨g, cap, cur, rfl, hB, hgg, hn, hm, hcs, ht⟩
  · omega
  · have HOW := Lib.hid (ho2.cells (g := g) rfl)
    have HG : Hid (g < w2.heap.size) := Lib.hid (Array.getElem?_eq_some_iff.1 hgg).1
    have hm' := hm
    unfold maxLen at hm'
    clear hg2 hb2 ho1 hr hgg hcs ht ho2
    go_wp2_with fail
    go_ret
    refine ⟨_, rfl, ?_, HB2.out⟩
    simp only [numsT, T.At]
    refine ⟨_, cap, l.map (Value.int .i64), rfl, by simp [lent_one]; omega, hm, by simp, fun _ => ⟨_, rfl, ⟨hB, HG.out⟩, ?_⟩, AtL.of_lits⟩
    rw [lent_one]
    exact HOW.out

end Go.Proofs.YtfckomjbgopmaaaGreatDoor.Sch
end
section
set_option linter.unusedVariables false
namespace Go.Proofs.YtfckomjbgopmaaaGreatDoor.Sch
open Go.RowKit Words Tree SchP Kit Owned

/-- Element k of a row of integers that is read. -/
theorem reads_int {w : World} {B : Nat} {A : Option Addr} {l : List Int} {i : IntKind} (h : Reads w B 1 A l.length (l.map (Value.int i))) {k : Nat} (hk : k < l.length) :
    ∃ ad, A = some ad ∧ ad.block < B ∧ w.cell? (ad.add k) = some (.int i l[k]) := by
  obtain ⟨ad, e, hb, hc⟩ := h.2 (by omega)
  exact ⟨ad, e, hb, hc k _ (by simp [hk])⟩
theorem below_drewN' {w : World} (n : Nat) : Below w.heap.size w (w.drewN n) := ⟨rfl, rfl, rfl, Nat.le_refl _, fun _ _ => rfl⟩
theorem take_snoc {α : Type} {l : List α} {k : Nat} (h : k < l.length) : l.take (k + 1) = l.take k ++ [l[k]] := List.take_succ_eq_append_getElem h

set_option maxRecDepth 100000 in
theorem int64s_any (ao bo : Option Addr) (c d : Nat) (xs ys : List Int) (w : World) (ha : Reads w w.heap.size 1 ao xs.length (xs.map (Value.int .i64))) (hb : Reads w w.heap.size 1 bo ys.length (ys.map (Value.int .i64))) (hla : xs.length * 8 ≤ 140737488351232) (hlb : ys.length * 8 ≤ 140737488351232) (r : Bool) (hr : r = true ↔ xs = ys) :
    Calls Tryz.prog 52 #[.slice ao xs.length c, .slice bo ys.length d] w (AnsB r w) := by
  have HA := Lib.hid ha; have HB := Lib.hid hb; have HR := Lib.hid hr
  clear ha hb hr
  by_cases hl : xs.length = ys.length
  · have HL := Lib.hid hl
    have hbne : ((xs.length : Int) != (ys.length : Int)) = false := by rw [hl]; simp
    clear hl
    go_enter Tryz.func52, Tryz.ntmps52
    go_wp2_with fail
    go_loopw [5] (fun i wr => ∃ (k m : Nat), k ≤ xs.length ∧ i = .int .i64 k ∧ Hid (xs.take k = ys.take k) ∧ wr = w.drewN m) (fun i _ => xs.length - (intOf i).toNat)
    case atStart => exact ⟨0, 0, by omega, rfl, Lib.hid (by simp), rfl⟩
    case round =>
      obtain ⟨k, m, hk, rfl, HE, rfl⟩ := hrel
      by_cases hlt : k < xs.length
      · have hlt2 : k < ys.length := by have := HL.out; omega
        obtain ⟨ad, rfl, hba, a0⟩ := reads_int HA.out hlt
        obtain ⟨bd, rfl, hbb, b0⟩ := reads_int HB.out hlt2
        have HST : Hid (xs.take (k + 1) = xs.take k ++ [xs[k]] ∧ ys.take (k + 1) = ys.take k ++ [ys[k]]) := Lib.hid ⟨take_snoc hlt, take_snoc hlt2⟩
        have HNE : Hid (¬ xs[k] = ys[k] → r = false) := Lib.hid (fun h => by
          cases hr0 : r with
          | false => rfl
          | true =>
            have e := HR.out.1 hr0
            subst e
            exact absurd rfl h)
        by_cases he : xs[k] = ys[k]
        · have HQ := Lib.hid he
          rw [← he] at b0
          clear he HNE
          generalize hx : xs[k] = x at *
          clear hx
          go_wp2_with fail
          go_quiet (fail)
          go_wp2_with fail
          go_roundw
          case rel => exact ⟨k + 1, _, by omega, by go_num, Lib.hid (by rw [HST.out.1, HST.out.2, HE.out, ← HQ.out]), by first | rfl | (rw [World.drewN_drewN])⟩
          case measure => simp [intOf]; omega
        · have HRF := Lib.hid (HNE.out he)
          have hne : (xs[k] != ys[k]) = true := by rw [bne_iff_ne]; exact he
          clear he HNE HST
          generalize xs[k] = x at *
          generalize ys[k] = y at *
          go_wp2_with fail
          go_quiet (fail)
          go_wp2_with fail
          go_ret
          rw [HRF.out]
          exact ⟨rfl, ⟨rfl, rfl, rfl, Nat.le_refl _, fun _ _ => rfl⟩⟩
      · obtain rfl : k = xs.length := by omega
        have hT : r = true := by
          rw [HR.out]
          have := HE.out
          rw [List.take_of_length_le (Nat.le_refl _), HL.out, List.take_of_length_le (Nat.le_refl _)] at this
          exact this
        have HRT := Lib.hid hT
        clear hT
        go_wp2_with fail
        go_ret
        rw [HRT.out]
        exact ⟨rfl, below_drewN' _⟩
  · have hbne : ((xs.length : Int) != (ys.length : Int)) = true := by rw [bne_iff_ne]; omega
    have HRF : Hid (r = false) := Lib.hid (by
      cases hr0 : r with
      | false => rfl
      | true => exact absurd (by rw [HR.out.1 hr0]) hl)
    clear hl
    go_enter Tryz.func52, Tryz.ntmps52
    go_wp2_with fail
    go_ret
    rw [HRF.out]
    exact ⟨rfl, Below.refl _ _⟩

set_option maxRecDepth 100000 in
theorem ints_any (ao bo : Option Addr) (c d : Nat) (xs ys : List Int) (w : World) (ha : Reads w w.heap.size 1 ao xs.length (xs.map (Value.int .i64))) (hb : Reads w w.heap.size 1 bo ys.length (ys.map (Value.int .i64))) (hla : xs.length * 8 ≤ 140737488351232) (hlb : ys.length * 8 ≤ 140737488351232) (r : Bool) (hr : r = true ↔ xs = ys) :
    Calls Tryz.prog 70 #[.slice ao xs.length c, .slice bo ys.length d] w (AnsB r w) := by
  have HA := Lib.hid ha; have HB := Lib.hid hb; have HR := Lib.hid hr
  clear ha hb hr
  by_cases hl : xs.length = ys.length
  · have HL := Lib.hid hl
    have hbne : ((xs.length : Int) != (ys.length : Int)) = false := by rw [hl]; simp
    clear hl
    go_enter Tryz.func70, Tryz.ntmps70
    go_wp2_with fail
    go_loopw [5] (fun i wr => ∃ (k m : Nat), k ≤ xs.length ∧ i = .int .i64 k ∧ Hid (xs.take k = ys.take k) ∧ wr = w.drewN m) (fun i _ => xs.length - (intOf i).toNat)
    case atStart => exact ⟨0, 0, by omega, rfl, Lib.hid (by simp), rfl⟩
    case round =>
      obtain ⟨k, m, hk, rfl, HE, rfl⟩ := hrel
      by_cases hlt : k < xs.length
      · have hlt2 : k < ys.length := by have := HL.out; omega
        obtain ⟨ad, rfl, hba, a0⟩ := reads_int HA.out hlt
        obtain ⟨bd, rfl, hbb, b0⟩ := reads_int HB.out hlt2
        have HST : Hid (xs.take (k + 1) = xs.take k ++ [xs[k]] ∧ ys.take (k + 1) = ys.take k ++ [ys[k]]) := Lib.hid ⟨take_snoc hlt, take_snoc hlt2⟩
        have HNE : Hid (¬ xs[k] = ys[k] → r = false) := Lib.hid (fun h => by
          cases hr0 : r with
          | false => rfl
          | true =>
            have e := HR.out.1 hr0
            subst e
            exact absurd rfl h)
        by_cases he : xs[k] = ys[k]
        · have HQ := Lib.hid he
          rw [← he] at b0
          clear he HNE
          generalize hx : xs[k] = x at *
          clear hx
          go_wp2_with fail
          go_quiet (fail)
          go_wp2_with fail
          go_roundw
          case rel => exact ⟨k + 1, _, by omega, by go_num, Lib.hid (by rw [HST.out.1, HST.out.2, HE.out, ← HQ.out]), by first | rfl | (rw [World.drewN_drewN])⟩
          case measure => simp [intOf]; omega
        · have HRF := Lib.hid (HNE.out he)
          have hne : (xs[k] != ys[k]) = true := by rw [bne_iff_ne]; exact he
          clear he HNE HST
          generalize xs[k] = x at *
          generalize ys[k] = y at *
          go_wp2_with fail
          go_quiet (fail)
          go_wp2_with fail
          go_ret
          rw [HRF.out]
          exact ⟨rfl, ⟨rfl, rfl, rfl, Nat.le_refl _, fun _ _ => rfl⟩⟩
      · obtain rfl : k = xs.length := by omega
        have hT : r = true := by
          rw [HR.out]
          have := HE.out
          rw [List.take_of_length_le (Nat.le_refl _), HL.out, List.take_of_length_le (Nat.le_refl _)] at this
          exact this
        have HRT := Lib.hid hT
        clear hT
        go_wp2_with fail
        go_ret
        rw [HRT.out]
        exact ⟨rfl, below_drewN' _⟩
  · have hbne : ((xs.length : Int) != (ys.length : Int)) = true := by rw [bne_iff_ne]; omega
    have HRF : Hid (r = false) := Lib.hid (by
      cases hr0 : r with
      | false => rfl
      | true => exact absurd (by rw [HR.out.1 hr0]) hl)
    clear hl
    go_enter Tryz.func70, Tryz.ntmps70
    go_wp2_with fail
    go_ret
    rw [HRF.out]
    exact ⟨rfl, Below.refl _ _⟩

set_option maxRecDepth 100000 in
theorem kept64_any (v : Value) (A : Option Addr) (c : Nat) (l m : List Int) (w : World) (hv : T.At lent w (fun g => g < w.heap.size) (numsT .i64 l) v) (hr : Reads w w.heap.size 1 A m.length (m.map (Value.int .i64))) (hl : l.length * 8 ≤ 140737488351232) (hml : m.length * 8 ≤ 140737488351232) (r : Bool) (hq : r = true ↔ l = m) :
    Calls Tryz.prog 41 #[v, .slice A m.length c] w (AnsB r w) := by
  obtain ⟨ad, cap, rfl, hc, hm, hs, hcell⟩ := at_nums_mark lent_one hv
  obtain ⟨_, _, he, _, _, hrl⟩ := at_nums (At.bare hv)
  injection he with e1 e2 e3
  subst e1 e3
  have HC := int64s_any _ _ cap c l m w hrl hr hl hml r hq
  have hm' := hm
  unfold maxLen at hm'
  have HQ := Lib.hid hq; have HV := Lib.hid hv; have HR := Lib.hid hr; have HRL := Lib.hid hrl
  clear hq hv hr hrl
  have HCC := Lib.hid hcell; clear hcell
  cases r with
  | false =>
    go_enter Tryz.func41, Tryz.ntmps41
    go_wp2_with fail
    refine HC.mono ?_
    rintro e w1 ⟨rfl, b1⟩
    have B1 := Lib.hid b1; clear b1
    go_wp2_with fail
    go_ret
    exact ⟨rfl, B1.out⟩
  | true =>
    go_enter Tryz.func41, Tryz.ntmps41
    go_wp2_with fail
    refine HC.mono ?_
    rintro e w1 ⟨rfl, b1⟩
    have hcell : w1.cell? (ad.add l.length) = some (.int .i64 (-7171)) := (b1.cell (by rw [block_of_add]; exact hs)).trans HCC.out
    have B1 := Lib.hid b1; clear b1
    go_wp2_with fail
    go_ret
    exact ⟨rfl, B1.out⟩
set_option maxRecDepth 100000 in
theorem keptInt_any (v : Value) (A : Option Addr) (c : Nat) (l m : List Int) (w : World) (hv : T.At lent w (fun g => g < w.heap.size) (numsT .i64 l) v) (hr : Reads w w.heap.size 1 A m.length (m.map (Value.int .i64))) (hl : l.length * 8 ≤ 140737488351232) (hml : m.length * 8 ≤ 140737488351232) (r : Bool) (hq : r = true ↔ l = m) :
    Calls Tryz.prog 40 #[v, .slice A m.length c] w (AnsB r w) := by
  obtain ⟨ad, cap, rfl, hc, hm, hs, hcell⟩ := at_nums_mark lent_one hv
  obtain ⟨_, _, he, _, _, hrl⟩ := at_nums (At.bare hv)
  injection he with e1 e2 e3
  subst e1 e3
  have HC := ints_any _ _ cap c l m w hrl hr hl hml r hq
  have hm' := hm
  unfold maxLen at hm'
  have HQ := Lib.hid hq; have HV := Lib.hid hv; have HR := Lib.hid hr; have HRL := Lib.hid hrl
  clear hq hv hr hrl
  have HCC := Lib.hid hcell; clear hcell
  cases r with
  | false =>
    go_enter Tryz.func40, Tryz.ntmps40
    go_wp2_with fail
    refine HC.mono ?_
    rintro e w1 ⟨rfl, b1⟩
    have B1 := Lib.hid b1; clear b1
    go_wp2_with fail
    go_ret
    exact ⟨rfl, B1.out⟩
  | true =>
    go_enter Tryz.func40, Tryz.ntmps40
    go_wp2_with fail
    refine HC.mono ?_
    rintro e w1 ⟨rfl, b1⟩
    have hcell : w1.cell? (ad.add l.length) = some (.int .i64 (-7171)) := (b1.cell (by rw [block_of_add]; exact hs)).trans HCC.out
    have B1 := Lib.hid b1; clear b1
    go_wp2_with fail
    go_ret
    exact ⟨rfl, B1.out⟩
end Go.Proofs.YtfckomjbgopmaaaGreatDoor.Sch
end
